/- Bytes in memory, and the smallest functions on them. -/
import Derived.Test.YtfpmdagchbbkcaaRange
import Derived.Lib.Hide
namespace Go.Proofs.Ytfpmdagchbbkcaa
open Go.RowKit

/-- A byte as a value. -/
def Bv (b : UInt8) : Value := .int .u8 (b.toNat : Int)

/-- A value reads as these bytes: a slice of them. -/
def RdB (w : World) (v : Value) (l : List UInt8) : Prop :=
  ∃ a cap, v = .slice a l.length cap ∧ (l.length ≤ cap ∧ cap ≤ maxLen ∧ (a = none → cap = 0)) ∧ (∀ ad, a = some ad → ad.spot = none ∧ ∀ i b, l[i]? = some b → w.cell? ⟨ad.block, ad.off + i, none⟩ = some (.int .u8 (b.toNat : Int)))

theorem RdB.below {w w' : World} {v : Value} {l : List UInt8} (h : RdB w v l) (hb : Below w.heap.size w w') : RdB w' v l := by
  obtain ⟨a, cap, rfl, h1, h2⟩ := h
  refine ⟨a, cap, rfl, h1, fun ad had => ⟨(h2 ad had).1, fun i b hi => ?_⟩⟩
  have h3 := (h2 ad had).2 i b hi
  exact (hb.cell (p := ⟨ad.block, ad.off + i, none⟩) (World.block_lt_of_cell? w _ h3)).trans h3

/-! Pieces of slices and strings, as run equations. -/
section
variable {P : Program} {t e : TypeId} {s : Nat}
theorem run_slice_gen (ht : P.underlying t = some (.slice e)) (hs : ∀ w, (sizeOf e).run P w = .ok s w) (a : Option Addr) (len cap : Nat) (lo hi : Option Int) (l h : Nat)
    (hlo : ∀ i, lo = some i → i = (l : Int)) (hlo' : lo = none → l = 0) (hhi : ∀ i, hi = some i → i = (h : Int)) (hhi' : hi = none → h = len) (h1 : l ≤ h) (h2 : h ≤ cap) (W : World) :
    (Instr.slice t (.slice a len cap) (lo.map (.int .i64)) (hi.map (.int .i64)) none).run P W = .ok (.slice (if cap = l then a else a.map (·.add (l * s))) (h - l) (cap - l)) W := by
  have hb : (Instr.sliceBounds true len cap (lo.map (.int .i64)) (hi.map (.int .i64)) none).run P W = .ok (l, h, cap) W := by
    have e1 : ∀ (x y : Nat) (code : BoundsCode), x ≤ y → (Instr.sliceBound (.int .i64 (x : Int)) y code).run P W = .ok x W := fun x y code hxy => by
      simp [Instr.sliceBound, asIntOf, Sem.run_bind, hxy]
    cases lo with
    | none =>
      obtain rfl := hlo' rfl
      cases hi with
      | none => obtain rfl := hhi' rfl; simp [Instr.sliceBounds]
      | some i => obtain rfl := hhi i rfl; simp [Instr.sliceBounds, Sem.run_bind, e1 h cap _ h2]
    | some j =>
      obtain rfl := hlo j rfl
      cases hi with
      | none => obtain rfl := hhi' rfl; simp [Instr.sliceBounds, Sem.run_bind, e1 l h _ h1]
      | some i => obtain rfl := hhi i rfl; simp [Instr.sliceBounds, Sem.run_bind, e1 h cap _ h2, e1 l h _ h1]
  simp only [Instr.slice, Sem.run_bind, run_underlying ht, Result.andThen_ok, hb, hs, Sem.run_pure]
theorem run_sliceAt_gen (ht : P.underlying t = some (.slice e)) (x : Value) (lo hi mx : Option Value) (W : World) : (Instr.sliceAt t x lo hi mx).run P W = (Instr.slice t x lo hi mx).run P W := by
  simp [Instr.sliceAt, run_underlying ht]
end

/-- What slices.Backward hands out. -/
def backs (l : List UInt8) (k : Nat) : List (UInt8 × Nat) := (List.range k).map fun j => (l.getD (l.length - 1 - j) 0, l.length - 1 - j)
theorem backs_succ (l : List UInt8) (k : Nat) : backs l (k + 1) = backs l k ++ [(l.getD (l.length - 1 - k) 0, l.length - 1 - k)] := by simp [backs, List.range_succ]

theorem u8_lt (b : UInt8) : (b.toNat : Int) < 256 := by have := b.toNat_lt; omega

attribute [local go_sem] Oper.semAt_some

set_option maxRecDepth 100000 in
set_option maxHeartbeats 2000000 in
theorem iter_backward (B : Nat) (sv : Value) (l : List UInt8) (hlen : l.length ≤ 140737488351232) :
    Iter Try.prog 82 #[.pointer (some ⟨B, 0, none⟩)] (fun x : UInt8 × Nat => #[.int .i64 (x.2 : Int), .int .u8 (x.1.toNat : Int)])
      (fun pre => ∃ k, k ≤ l.length ∧ pre = backs l k) (fun xs => xs = backs l l.length) 0
      (fun W => W.cell? ⟨B, 0, none⟩ = some sv ∧ RdB W sv l) := by
  intro L J Jx w hL hpre _ hY h0
  refine callsIn_of_wp Try.func82 rfl trivial ?_ rfl
  simp only [Try.ntmps82, List.size_toArray, List.length_cons, List.length_nil, Nat.reduceAdd, Nat.reduceSub, Array.replicate_succ, Array.replicate_zero, List.push_toArray, List.append_toArray, List.nil_append, List.cons_append]
  have hP := hpre _ _ h0
  obtain ⟨hB, a, cap, rfl, hn, hs⟩ := hP
  gi_wp2
  gi_loopw [3] (fun i wr => ∃ (m : Nat) (v : Int), m ≤ l.length ∧ i = .int .i64 v ∧ v + 1 = m ∧ J (backs l (l.length - m)) wr ∧ w.heap.size ≤ wr.heap.size)
    (fun i _ => (intOf i + 1).toNat)
  case atStart => exact ⟨l.length, _, Nat.le_refl _, rfl, by omega, by simpa [backs] using h0, Nat.le_refl _⟩
  case round =>
    obtain ⟨m, v, hm, rfl, hv, hJ, hsz⟩ := hrel
    cases m with
    | zero =>
      obtain rfl : v = -1 := by omega
      gi_wp2
      go_end0
      exact ⟨rfl, .inl ⟨_, rfl, by simpa using hJ⟩⟩
    | succ j =>
      obtain rfl : v = (j : Int) := by omega
      have hj : j < l.length := by omega
      obtain ⟨hB', a', cap', heq, hn', hs'⟩ := hpre _ _ hJ
      cases heq
      obtain ⟨ad, rfl⟩ : ∃ ad, a = some ad := by
        cases a with
        | none => have := hn.2.2 rfl; omega
        | some ad => exact ⟨ad, rfl⟩
      obtain ⟨hspot, hcell⟩ := hs' ad rfl
      obtain ⟨ab, ao, asp⟩ := ad
      simp only at hspot
      subst hspot
      have hc := hcell j l[j] (by simp [hj])
      simp only at hc
      have hok : backs l (l.length - (j + 1)) ++ [(l[j], j)] = backs l (l.length - j) := by
        rw [show l.length - j = (l.length - (j + 1)) + 1 by omega, backs_succ]
        have : l.length - 1 - (l.length - (j + 1)) = j := by omega
        simp [this, hj]
      obtain ⟨fn, tmps, assign, body, hy, hR⟩ := hY (backs l (l.length - (j + 1))) (l[j], j) wr ⟨l.length - j, by omega, hok⟩ hJ (by simpa using hsz)
      dsimp only at hy
      have Hok := Lib.hid hok
      clear hok hv hm hpre hn hs hn' hs' hcell hJ
      gi_wp2
      refine ⟨rfl, hR.mono ?_⟩
      rintro e W3 ⟨_, hsz3, ⟨rfl, hJ3⟩ | ⟨rfl, hJx3⟩⟩
      · gi_wp2
        go_roundw
        case rel => exact ⟨j, _, by omega, rfl, by omega, by rw [← Hok.out]; exact hJ3, by omega⟩
        case measure => simp [intOf]
      · gi_wp2
        refine bodyPost_ret (results_none rfl _ _ _) rfl ?_
        exact ⟨rfl, .inr hJx3⟩

/-- slices.Backward: the closure that captures the slice. -/
theorem backward_any (a : Option Addr) (n c : Nat) (w : World) :
    Calls Try.prog 70 #[.slice a n c] w fun e w' => e = .returned (.func (.func 82) #[] #[.pointer (some ⟨w.heap.size, 0, none⟩)]) ∧ w' = w.alloc (.cells #[.slice a n c] 34) := by
  go_enter Try.func70, Try.ntmps70
  go_wp2
  go_ret
  exact ⟨rfl, rfl⟩

/-- A number out of bytes, the lowest first. -/
def leNat (l : List UInt8) : Nat := l.foldr (fun b n => b.toNat + 256 * n) 0
theorem leNat_lt (l : List UInt8) : leNat l < 256 ^ l.length := by
  induction l with
  | nil => simp [leNat]
  | cons b l ih =>
    have := b.toNat_lt
    simp only [leNat, List.foldr_cons, List.length_cons, Nat.pow_succ] at *
    omega
theorem leNat_drop (l : List UInt8) (k : Nat) (hk : k < l.length) : leNat (l.drop (l.length - (k + 1))) = (l.getD (l.length - 1 - k) 0).toNat + 256 * leNat (l.drop (l.length - k)) := by
  have h1 : l.length - (k + 1) < l.length := by omega
  rw [List.drop_eq_getElem_cons h1]
  have h2 : l.length - (k + 1) + 1 = l.length - k := by omega
  have h3 : l.length - 1 - k = l.length - (k + 1) := by omega
  simp [leNat, h2, h3, h1]

theorem or_step (A b : Nat) (hA : 256 * A + b < 18446744073709551616) (hb : b < 256) :
    bits .or .u64 (IntKind.u64.wrap ((A : Int) * 256)) (IntKind.u64.wrap (b : Int)) = ((b + 256 * A : Nat) : Int) := by
  have w1 : IntKind.u64.wrap ((A : Int) * 256) = ((A * 256 : Nat) : Int) := by simp [IntKind.wrap, IntKind.signed, IntKind.bits]; omega
  have w2 : IntKind.u64.wrap (b : Int) = (b : Int) := by simp [IntKind.wrap, IntKind.signed, IntKind.bits]; omega
  rw [w1, w2, bits_or_u64_nat _ _ (by omega) (by omega)]
  have h := Nat.two_pow_add_eq_or_of_lt (i := 8) (b := b) (by simpa using hb) A
  have h2 : 2 ^ 8 * A = A * 256 := by omega
  rw [h2] at h
  rw [← h]; congr 1; omega

set_option maxRecDepth 100000 in
set_option maxHeartbeats 2000000 in
/-- book.number: eight bytes as a number. -/
theorem number_any (w : World) (a : Option Addr) (n c : Nat) (l : List UInt8) (hrd : RdB w (.slice a n c) l) (hlen : l.length ≤ 8) :
    Calls Try.prog 63 #[.slice a n c] w fun e w' => e = .returned (.int .i64 (wrap64 (leNat l))) ∧ Below w.heap.size w w' := by
  refine calls_of_wp_marks Try.func63 rfl ?_
  simp only [Try.ntmps63, List.size_toArray, List.length_cons, List.length_nil, Nat.reduceAdd, Nat.reduceSub, Array.replicate_succ, Array.replicate_zero, List.push_toArray, List.append_toArray, List.nil_append, List.cons_append]
  go_wp2_with (go_at_call 70; refine (backward_any _ _ _ _).mono ?_; rintro e w' ⟨rfl, rfl⟩)
  generalize hw1 : (w.alloc _).alloc _ = w1
  have hs1 : w.heap.size + 2 ≤ w1.heap.size := by rw [← hw1]; simp
  have hb1 : Below w.heap.size w w1 := by rw [← hw1]; exact ((Below.refl _ _).alloc (Nat.le_refl _) _).alloc (by simp) _
  have c3 : w1.cell? ⟨w.heap.size, 0, none⟩ = some (.int .u64 0) := by rw [← hw1]; simp [go_sem]
  have f3 : w1.frozen? ⟨w.heap.size, 0, none⟩ = false := by rw [← hw1]; simp [go_sem]
  have c4 : w1.cell? ⟨w.heap.size + 1, 0, none⟩ = some (.slice a n c) := by rw [← hw1]; simp [go_sem]
  clear hw1
  refine wp_range (gf := 82) (gfn := Try.f82) (lb := #[.pointer (some ⟨w.heap.size + 1, 0, none⟩)]) rfl Try.func82 rfl rfl
    (iter_backward (w.heap.size + 1) (.slice a n c) l (by omega)) (fun _ => rfl)
    (fun pre W => Below w.heap.size w W ∧ W.cell? ⟨w.heap.size, 0, none⟩ = some (.int .u64 (leNat (l.drop (l.length - pre.length)))) ∧ W.frozen? ⟨w.heap.size, 0, none⟩ = false ∧ W.cell? ⟨w.heap.size + 1, 0, none⟩ = some (.slice a n c))
    (fun _ _ => False) (fun b => b = w.heap.size) (fun b hb => .inl (by omega)) ?h0 ?hpre ?hkeep ?hput ?hputx ?hround ?hdone ?hstop
  case h0 =>
    intro W hB hsz
    exact ⟨hb1.trans (hB.mono (by omega)), by simpa [leNat] using belowCell hB (by omega) c3, belowFrozen hB (by omega) f3, belowCell hB (by omega) c4⟩
  case hpre => exact fun pre W ⟨h1, h2, h3, h4⟩ => ⟨h4, hrd.below h1⟩
  case hkeep =>
    rintro pre W W' ⟨h1, h2, h3, h4⟩ hs hk
    exact ⟨hk.below h1 (by omega) (by omega), hk.cell h2 (by omega), hk.frozen h3 (by omega) (by omega), hk.cell h4 (by omega)⟩
  case hput =>
    rintro pre W o ⟨h1, h2, h3, h4⟩
    exact ⟨below_putObj h1 (by omega), by rw [cell_putObj (by omega)]; exact h2, by rw [frozen_putObj (by omega)]; exact h3, by rw [cell_putObj (by omega)]; exact h4⟩
  case hputx => exact fun _ _ _ h => h
  case hdone =>
    rintro xs W rfl ⟨h1, h2, h3, h4⟩ hD
    have hx : (backs l l.length).length = l.length := by simp [backs]
    rw [hx, Nat.sub_self, List.drop_zero] at h2
    go_wp2
    exact leave_mark hD (results_tmp rfl _ _ _) ⟨rfl, below_putObj h1 (by omega)⟩
  case hstop => exact fun _ _ h => h.elim
  case hround =>
    rintro r r' pre x W ⟨k, hk, hpx⟩ ⟨h1, h2, h3, h4⟩ hsz hl
    have hlen : pre.length + 1 = k := by have := congrArg List.length hpx; simpa [backs] using this
    have hx : x = (l.getD (l.length - 1 - pre.length) 0, l.length - 1 - pre.length) := by
      subst hlen; rw [backs_succ] at hpx; exact (List.cons.inj (List.append_inj' hpx rfl).2).1
    have hd := leNat_drop l pre.length (by omega)
    obtain ⟨b, i⟩ := x
    cases hx
    gi_wp2
    refine ⟨Touch.refl _ _, hl, fun w₂ hw2 => ?_⟩
    have c3' : w₂.cell? ⟨w.heap.size, 0, none⟩ = some (.int .u64 (leNat (l.drop (l.length - pre.length)))) := by rw [hw2, cell_putObj (by omega)]; exact h2
    have f3' : w₂.frozen? ⟨w.heap.size, 0, none⟩ = false := by rw [hw2, frozen_putObj (by omega)]; exact h3
    have H := Lib.hid hw2
    clear hw2 h2 h3 hpx
    gi_wp2
    have hlt := leNat_lt (l.drop (l.length - k))
    have hpow : 256 ^ (l.drop (l.length - k)).length ≤ 256 ^ 8 := Nat.pow_le_pow_right (by omega) (by simp; omega)
    have hbit := or_step (leNat (l.drop (l.length - pre.length))) (l.getD (l.length - 1 - pre.length) 0).toNat (by rw [← hlen] at hlt hpow; omega) (by have := (l.getD (l.length - 1 - pre.length) 0).toNat_lt; omega)
    rw [List.getD_eq_getElem?_getD] at hbit hd
    rw [hbit, ← hd, hlen]
    refine ⟨(Touch.refl _ _).setCell (.inl (by exact rfl)) _, ?_, ?_, ?_, ?_⟩
    · refine belowSet ?_ (Nat.le_refl _) _
      rw [H.out]; exact below_putObj h1 (by omega)
    · simp [go_sem, c3']
    · simp [go_sem, f3']
    · have c4' : w₂.cell? ⟨w.heap.size + 1, 0, none⟩ = some (.slice a n c) := by rw [H.out, cell_putObj (by omega)]; exact h4
      simp [go_sem, c4']
end Go.Proofs.Ytfpmdagchbbkcaa
