/- The book: where its parts lie, heads, Format. Calls in regions that draw their order. -/
import Derived.Test.YtfpmdagchbbkcaaFlush
namespace Go.Proofs.Ytfpmdagchbbkcaa
open Go.RowKit

section
variable {P : Program} {w w' : World} {a : Act} {o : Oper} {v : Value} {ops : Array Oper} {K : Exit → Act → World → Prop} {S : World → Prop} {fuel : Nat} {listed : Array Bool}
theorem exec_call {f : FuncId} {fn : Func} {xs : List Operand} {ts : Array TypeId} (vs : List Value) (ho : o.op = .call { callee := .value (.func f), args := xs.toArray, argTypes := ts }) (hx : xs.map a.eval = vs)
    (hfn : P.funcs[f]? = some fn) (hb : fn.body.isSome = true) (hn : (fn.name == "runtime.NumGoroutine") = false) : (execOp a.eval o).run P w = .ok (.enter f vs.toArray) w := by
  have hy : a.eval (.func f) = .func (.func f) #[] #[] := rfl
  have hc := enters_plain hfn hb hn vs.toArray w
  unfold execOp
  simp only [ho, resolve, hy, List.map_toArray, hx, Deferred.ofValue, Sem.run_bind, Sem.run_pure, Result.andThen_ok, invoke, Array.empty_append, Array.append_empty]
  exact hc
/-- The one operation that may come up is a call. -/
theorem onlyCall (i d : Nat) {oi : Oper} {f : FuncId} {vs : Array Value} (hi : ops[i]? = some oi) (hdst : oi.dst = some d) (hr : Region.ready .any ops listed = [i]) (hw : Region.wanted oi (yielded ops a.tmps) = true)
    (hx : (execOp a.eval oi).run P w = .ok (.enter f vs) w)
    (h : Calls P f vs w fun e w' => ∃ v, e = .returned v ∧ (lastly ops i = true ∨ S w') ∧ wpE P ops K S fuel (listed.setIfInBounds i true) (a.put (some d) v) w') : wpE P ops K S (fuel + 1) listed a w :=
  only i hi hr hw (by unfold Oper.wp; rw [hx, Oper.upon_enter]; refine h.mono ?_; rintro e w' ⟨v, rfl, hS, hk⟩; exact ⟨hS, hdst ▸ hk⟩)
/-- The last operation is a call that panics. -/
theorem lastPanic (i : Nat) {oi : Oper} {f : FuncId} {vs : Array Value} (hi : ops[i]? = some oi) (hr : Region.ready .any ops listed = [i]) (hw : Region.wanted oi (yielded ops a.tmps) = true) (hl : lastly ops i = true)
    (hx : (execOp a.eval oi).run P w = .ok (.enter f vs) w)
    (h : Calls P f vs w fun e w' => ∃ c, e = .panicked c ∧ K (.panic c) a w') : wpE P ops K S (fuel + 1) listed a w :=
  only i hi hr hw (by
    have : outs ops K i = K := if_pos hl
    rw [this]
    unfold Oper.wp; rw [hx, Oper.upon_enter]; refine h.mono ?_; rintro e w' ⟨c, rfl, hk⟩; exact hk)
/-- One of two operations comes up. -/
theorem either (i j : Nat) (hr : Region.ready .any ops listed = [i, j])
    (h1 : wpOp P ops (outs ops K i) i (fun a' w' => (lastly ops i = true ∨ S w') ∧ wpE P ops K S fuel (listed.setIfInBounds i true) a' w') a w)
    (h2 : wpOp P ops (outs ops K j) j (fun a' w' => (lastly ops j = true ∨ S w') ∧ wpE P ops K S fuel (listed.setIfInBounds j true) a' w') a w) : wpE P ops K S (fuel + 1) listed a w := by
  intro _
  refine ⟨fun h => (by rw [h] at hr; cases hr), fun k hk => ?_⟩
  rw [hr] at hk
  simp only [List.mem_cons, List.not_mem_nil, or_false] at hk
  rcases hk with rfl | rfl
  · exact h1
  · exact h2
theorem opRun {N : Act → World → Prop} (i d : Nat) {oi : Oper} {v : Value} {w' : World} (hi : ops[i]? = some oi) (hdst : oi.dst = some d) (hw : Region.wanted oi (yielded ops a.tmps) = true)
    (hx : (execOp a.eval oi).run P w = .ok (.value v) w') (h : N (a.put (some d) v) w') : wpOp P ops (outs ops K i) i N a w := by
  unfold wpOp
  simp only [hi, hw, if_true]
  exact .inl (by unfold Oper.wp; rw [hx, Oper.upon_value, hdst]; exact h)
theorem opCall {N : Act → World → Prop} (i d : Nat) {oi : Oper} {f : FuncId} {vs : Array Value} (hi : ops[i]? = some oi) (hdst : oi.dst = some d) (hw : Region.wanted oi (yielded ops a.tmps) = true)
    (hx : (execOp a.eval oi).run P w = .ok (.enter f vs) w) (h : Calls P f vs w fun e w' => ∃ v, e = .returned v ∧ N (a.put (some d) v) w') : wpOp P ops (outs ops K i) i N a w := by
  unfold wpOp
  simp only [hi, hw, if_true]
  refine .inl ?_
  unfold Oper.wp; rw [hx, Oper.upon_enter]; refine h.mono ?_; rintro e w' ⟨v, rfl, hk⟩; exact hdst ▸ hk
end

/-! ### bytes as strings -/
def strB (l : List UInt8) : ByteArray := ⟨l.toArray⟩
theorem strB_inj {l m : List UInt8} : strB l = strB m ↔ l = m := by
  constructor
  · intro h; have := congrArg (fun b => b.data.toList) h; simpa [strB] using this
  · rintro rfl; rfl
theorem strB_toList (l : List UInt8) : (strB l).toList = l := by rw [ByteArray.toList_eq]; rfl
theorem foldl_bytes (l : List UInt8) : ∀ s : ByteArray, (l.map fun b => ((b.toNat : Int))).foldl (fun r n => r.push (UInt8.ofNat n.toNat)) s = ⟨s.data ++ l.toArray⟩ := by
  induction l with
  | nil => intro s; simp
  | cons b l ih =>
    intro s
    simp only [List.map_cons, List.foldl_cons]
    rw [ih]
    congr 1
    simp [ByteArray.push]
theorem run_str {w : World} {a : Option Addr} {n c : Nat} {l : List UInt8} (h : RdB w (.slice a n c) l) : (convert 34 9 (.slice a n c)).run Try.prog w = .ok (.string (strB l)) w := by
  rw [run_convert_bytes_string w _ _ 5 _ _ _ Try.underlying34 Try.underlying5 Try.underlying9]
  obtain ⟨a', cap, heq, h1, h2⟩ := h
  cases heq
  cases a with
  | none =>
    have hn : l = [] := List.eq_nil_of_length_eq_zero (by have := h1.2.2 rfl; omega)
    subst hn
    rfl
  | some ad =>
    obtain ⟨hs, hcell⟩ := h2 ad rfl
    obtain ⟨b, o, sp⟩ := ad
    simp only at hs; subst hs
    have hl := run_loadCells_list (P := Try.prog) w ⟨b, o, none⟩ ((l.map fun b => ((b.toNat : Int))).map (Value.int .u8)) (fun j v hv => by
      simp only [List.map_map, List.getElem?_map, Option.map_eq_some_iff] at hv
      obtain ⟨x, hx, rfl⟩ := hv
      rw [addr_add]; exact hcell j x hx)
    simp only [List.length_map] at hl
    rw [run_bytesToString w ⟨b, o, none⟩ l.length c _ hl, foldl_bytes]
    simp [strB]

/-! ### half, place, asked, must -/
def hf (d : DM) : Nat := (d.size - 2) / 2
set_option maxRecDepth 100000 in
theorem half_disk {w : World} {F : Nat → Prop} {a : Nat} {d : DM} (h : Disk w F a d) (h4 : 4 ≤ d.size) :
    Calls Try.prog 38 #[.pointer (some ⟨a, 0, none⟩)] w fun e w' => e = .returned (.int .i64 (hf d : Int)) ∧ w = w' := by
  have Hs := Lib.hid (size_disk h)
  have hm := h.1.most
  have hd : ((d.size : Int) - 2).tdiv 2 = (hf d : Int) := by rw [Int.tdiv_eq_ediv_of_nonneg (by omega)]; unfold hf; omega
  have hb : (hf d : Int) ≤ 65536 := by unfold hf; omega
  have hb0 : 0 ≤ (hf d : Int) := by omega
  have hI : (d.size : Int) ≤ 65536 := by omega
  have hI4 : 4 ≤ (d.size : Int) := by omega
  clear h h4 hm
  go_enter Try.func38, Try.ntmps38
  go_wp2_with (go_at_call 55; refine Hs.out.mono ?_; rintro e w' ⟨rfl, rfl⟩)
  go_ret
  exact ⟨rfl, rfl⟩
def plc (d : DM) (n : Nat) : Nat := 2 + n % 2 * hf d
set_option maxRecDepth 100000 in
theorem place_disk {w : World} {F : Nat → Prop} {a : Nat} {d : DM} (h : Disk w F a d) (h4 : 4 ≤ d.size) (n : Nat) (hn : n ≤ 4611686018427387904) :
    Calls Try.prog 41 #[.pointer (some ⟨a, 0, none⟩), .int .i64 (n : Int)] w fun e w' => e = .returned (.int .i64 (plc d n : Int)) ∧ w = w' := by
  have Hs := Lib.hid (half_disk h h4)
  have hm := h.1.most
  have hb : (hf d : Int) ≤ 65536 := by unfold hf; omega
  have hr : (n : Int).tmod 2 = ((n % 2 : Nat) : Int) := by rw [Int.tmod_eq_emod_of_nonneg (by omega)]; omega
  have hp : 2 + ((n % 2 : Nat) : Int) * (hf d : Int) = (plc d n : Int) := by unfold plc; simp
  have hb2 : ((n % 2 : Nat) : Int) * (hf d : Int) ≤ 65536 := by
    rcases Nat.mod_two_eq_zero_or_one n with e | e <;> rw [e] <;> simp; omega
  have hb3 : 0 ≤ ((n % 2 : Nat) : Int) * (hf d : Int) := by
    rcases Nat.mod_two_eq_zero_or_one n with e | e <;> rw [e] <;> simp
  generalize ((n % 2 : Nat) : Int) = r at *
  generalize (hf d : Int) = q at *
  have hw1 : wrap64 (r * q) = r * q := (by unfold wrap64; omega)
  have hw2 : wrap64 (2 + r * q) = (plc d n : Int) := by rw [← hp]; exact (by unfold wrap64; omega)
  clear h h4 hm
  go_enter Try.func41, Try.ntmps41
  go_wp2_with (go_at_call 38; refine Hs.out.mono ?_; rintro e w' ⟨rfl, rfl⟩)
  go_ret
  exact ⟨rfl, rfl⟩

theorem asked_nil (w : World) : Calls Try.prog 52 #[.pointer none] w fun e w' => e = .returned (.int .i64 1) ∧ w = w' := by
  have Hs := Lib.hid (size_nil w)
  go_enter Try.func52, Try.ntmps52
  go_wp2_with (go_at_call 55; refine Hs.out.mono ?_; rintro e w' ⟨rfl, rfl⟩)
  go_ret
  exact ⟨rfl, rfl⟩
theorem asked_small {w : World} {F : Nat → Prop} {a : Nat} {d : DM} (h : Disk w F a d) (h4 : d.size < 4) :
    Calls Try.prog 52 #[.pointer (some ⟨a, 0, none⟩)] w fun e w' => e = .returned (.int .i64 2) ∧ w = w' := by
  have Hs := Lib.hid (size_disk h)
  have hn := h.n0
  have hI4 : (d.size : Int) < 4 := by omega
  clear h
  go_enter Try.func52, Try.ntmps52
  go_wp2_with (go_at_call 55; refine Hs.out.mono ?_; rintro e w' ⟨rfl, rfl⟩)
  go_ret
  exact ⟨rfl, rfl⟩
theorem asked_ok {w : World} {F : Nat → Prop} {a : Nat} {d : DM} (h : Disk w F a d) (h4 : 4 ≤ d.size) :
    Calls Try.prog 52 #[.pointer (some ⟨a, 0, none⟩)] w fun e w' => e = .returned (.int .i64 0) ∧ w = w' := by
  have Hs := Lib.hid (size_disk h)
  have hn := h.n0
  have hI4 : decide ((d.size : Int) < 4) = false := by simp; omega
  clear h
  go_enter Try.func52, Try.ntmps52
  go_wp2_with (go_at_call 55; refine Hs.out.mono ?_; rintro e w' ⟨rfl, rfl⟩)
  go_ret
  exact ⟨rfl, rfl⟩
theorem must_ok (w : World) : Calls Try.prog 40 #[.int .i64 0] w fun e w' => e = .returned (.tuple #[]) ∧ w = w' := by
  go_enter Try.func40, Try.ntmps40
  go_wp2
  go_end0
  exact ⟨rfl, rfl⟩

/-! ### Equal -/
theorem equal_any {w : World} {a b : Option Addr} {n m c c' : Nat} {l k : List UInt8} (h1 : RdB w (.slice a n c) l) (h2 : RdB w (.slice b m c') k) :
    Calls Try.prog 64 #[.slice a n c, .slice b m c'] w fun e w' => e = .returned (.bool (decide (l = k))) ∧ w = w' := by
  have hs1 := run_str h1
  have hs2 := run_str h2
  have he : ((strB l).toList == (strB k).toList) = decide (l = k) := by rw [strB_toList, strB_toList, Bool.eq_iff_iff, beq_iff_eq, decide_eq_true_iff]
  clear h1 h2
  go_enter Try.func64, Try.ntmps64
  go_wp2
  go_ret
  exact ⟨rfl, rfl⟩

/-! ### head -/
def headB (n k : Int) : List UInt8 := padB (leB (u64 n) 8 ++ leB (u64 k) 8)
theorem headB_length (n k : Int) : (headB n k).length = 512 := by rw [headB, padB]; simp only [List.length_append, leB_length, List.length_replicate]
theorem head_key (n k : Int) (w : World) : ∀ w1 v1, OwnB w1 v1 (leB (u64 n) 8) → Below w.heap.size w w1 → (∀ g, v1.ownBlock = some g → w.heap.size ≤ g) → ∀ w2 v2, OwnB w2 v2 (leB (u64 k) 8) → Below w1.heap.size w1 w2 →
      ∃ v' w', (Builtin.append_ #[34, 34] 34 #[v1, v2]).run Try.prog w2 = .ok v' w' ∧ ∃ a n' c, v' = .slice a n' c ∧ RdB w' (.slice a n' c) (leB (u64 n) 8 ++ leB (u64 k) 8) ∧ Below w.heap.size w w' := by
    intro w1 v1 h1 h2 h3 w2 v2 h4 h5
    obtain ⟨a2, n2, e2⟩ := h4.shape
    subst e2
    have h1' := h1.below h5
    obtain ⟨v', w', q1, q2, q3, q4, q5⟩ := append_rd h1' a2 _ n2 (leB (u64 k) 8) h4.rd (by rw [leB_length, leB_length]; omega) 34
    obtain ⟨a', c', e'⟩ := q2.shape
    refine ⟨v', w', q1, a', _, c', e', e' ▸ q2.rd, q3.below (h2.trans (h5.mono h2.size)) (fun b hb e => by have := h3 _ e; omega) (by have := h2.size; have := h5.size; omega)⟩
set_option maxRecDepth 100000 in
set_option maxHeartbeats 1000000 in
theorem head_any (n k : Int) (w : World) :
    Calls Try.prog 44 #[.int .i64 n, .int .i64 k] w fun e w' => ∃ v, e = .returned v ∧ OwnB w' v (headB n k) ∧ Below w.heap.size w w' ∧ (∀ g, v.ownBlock = some g → w.heap.size ≤ g) := by
  have Hl1 := Lib.hid (low_any n w)
  have Hl2 := Lib.hid (fun w => low_any k w)
  go_enter Try.func44, Try.ntmps44
  have Hk := Lib.hid (head_key n k w)
  go_wp2_with (first
    | (go_at_call 57; refine Hl1.out.mono ?_; rintro e w1 ⟨v1, rfl, h1, h2, h3⟩; have H1 := Lib.hid h1; have H2 := Lib.hid h2; have H3 := Lib.hid h3; clear h1 h2 h3 Hl1)
    | (go_at_call 57; refine (Hl2.out _).mono ?_; rintro e w2 ⟨v2, rfl, h4, h5, h6⟩; obtain ⟨v', w', happ, a', n', c', e', hrd, hbel⟩ := Hk.out _ _ H1.out H2.out H3.out _ _ h4 h5; have H4 := Lib.hid hrd; have H5 := Lib.hid hbel; have Ha := Lib.hid happ; have He := Lib.hid e'; clear h4 h5 h6 hrd hbel happ e' H1 H2 H3 Hl2)
    | (refine wpList_append rfl rfl rfl rfl Ha.out ?_; rw [He.out])
    | (go_at_call 42; refine (padded_any _ _ _ _ _ H4.out (by rw [List.length_append, leB_length, leB_length]; omega)).mono ?_; rintro e w3 ⟨v3, rfl, h7, h8, h9⟩; have H7 := Lib.hid h7; have H8 := Lib.hid h8; have H9 := Lib.hid h9; clear h7 h8 h9))
  go_ret
  exact ⟨_, rfl, H7.out, H5.out.trans (H8.out.mono H5.out.size), fun g hg => by have := H9.out g hg; have := H5.out.size; omega⟩
end Go.Proofs.Ytfpmdagchbbkcaa
