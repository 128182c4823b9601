/- The document's Padded, Number, Half; the law's fill. -/
import Derived.Test.YtfpmdagchbbkcaaStrb
import Derived.Test.YtfpmdagchbbkcaaFormat
namespace Go.Proofs.Ytfpmdagchbbkcaa
open Go.RowKit

theorem strB_append (a b : List UInt8) : strB a ++ strB b = strB (a ++ b) := by
  apply ByteArray.ext; simp [strB, ByteArray.data_append]
theorem strB_size (a : List UInt8) : (strB a).size = a.length := rfl
theorem strB_sl (s : ByteArray) : strB (sl s) = s := by apply ByteArray.ext; simp [strB, sl]
theorem sl_strB (l : List UInt8) : sl (strB l) = l := rfl

theorem strB_get (l : List UInt8) (j : Nat) (h : j < (strB l).size) : (strB l)[j] = l[j]'(by rw [strB_size] at h; exact h) := rfl

/-- Noughts as a text. -/
theorem made_string (n : Nat) (hn : n ≤ 16777216) (w : World) : ∃ W', (Instr.makeSlice 34 (.int .i64 (n : Int)) (.int .i64 (n : Int))).run Try.prog w = .ok (.slice (some ⟨w.heap.size, 0, none⟩) n n) W' ∧
    (convert 34 9 (.slice (some ⟨w.heap.size, 0, none⟩) n n)).run Try.prog W' = .ok (.string (strB (zeros n))) W' ∧ Below w.heap.size w W' := by
  obtain ⟨W', h1, h2, h3⟩ := make_zeros n hn w
  exact ⟨W', h1, run_str h2.rd, h3⟩

set_option maxRecDepth 100000 in
set_option maxHeartbeats 400000 in
theorem ref_padded (l : List UInt8) (hl : l.length ≤ 1000000) (w : World) :
    Calls Try.prog 11 #[.string (strB l)] w fun e w' => e = .returned (.string (strB (padB l))) ∧ Below w.heap.size w w' := by
  have hadd := strB_append
  have hsz := strB_size
  go_enter Try.func11, Try.ntmps11
  go_wp2
  go_loopw [0] (fun v wr => ∃ (m : List UInt8), v = .string (strB m) ∧ (m = l ∨ m = padB l) ∧ Below w.heap.size w wr) (fun v _ => match v with | .string s => (512 - s.size % 512) % 512 | _ => 0)
  case atStart => exact ⟨l, rfl, .inl rfl, Below.refl _ _⟩
  case round =>
    obtain ⟨m, rfl, hm, hb⟩ := hrel
    have hpl : (padB l).length % 512 = 0 := padB_length l
    by_cases h0 : m.length % 512 = 0
    · have e : m = padB l := by
        rcases hm with rfl | h
        · unfold padB; rw [h0]; simp
        · exact h
      have c1 : ((((m.length : Int) % 512)) != 0) = false := by simp; omega
      have c2 : ((((m.length : Int) % 512)) == 0) = true := by rw [beq_iff_eq]; omega
      have Hb := Lib.hid hb
      have He := Lib.hid e
      clear hm hpl h0 hb e hl
      go_wp2
      go_ret
      exact ⟨by rw [He.out]; rfl, Hb.out⟩
    · obtain rfl : m = l := by
        rcases hm with h | rfl
        · exact h
        · exact absurd hpl h0
      have hk : 512 - m.length % 512 ≤ 512 := by omega
      obtain ⟨W', hmk, hcv, hB⟩ := made_string (512 - m.length % 512) (by omega) wr
      have ek : ((512 - m.length % 512 : Nat) : Int) = 512 - (m.length : Int) % 512 := by omega
      rw [ek] at hmk
      have ep : m ++ zeros (512 - m.length % 512) = padB m := by
        unfold padB zeros; congr 2; omega
      have c1 : ((((m.length : Int) % 512)) != 0) = true := by rw [bne_iff_ne]; omega
      have c2 : ((((m.length : Int) % 512)) == 0) = false := by rw [beq_eq_false_iff_ne]; omega
      have hw : IntKind.i64.wrap (512 - (m.length : Int) % 512) = 512 - (m.length : Int) % 512 := by simp [IntKind.wrap, IntKind.signed, IntKind.bits]; omega
      have Hb := Lib.hid (hb.trans (hB.mono hb.size))
      have Hpl := Lib.hid hpl
      have Hz := Lib.hid (show (m.length % 512 ≠ 0) from h0)
      have Hmk := Lib.hid hmk
      have He := Lib.hid ep
      have hzl : (zeros (512 - m.length % 512)).length ≤ 512 := by unfold zeros; rw [List.length_replicate]; omega
      clear hm hpl h0 hb hB hk ek hmk ep
      go_wp2_with (refine wpList_run rfl (exec_makeSlice rfl rfl rfl Hmk.out) ?_)
      go_roundw
      case rel => exact ⟨padB m, by rw [← He.out], .inr rfl, Hb.out⟩
      case measure =>
        rw [He.out]
        have h1 := Hpl.out
        have h2 := Hz.out
        show (512 - (padB m).length % 512) % 512 < (512 - m.length % 512) % 512
        omega

set_option maxRecDepth 100000 in
theorem law_fill (l : List UInt8) (w : World) :
    Calls Try.prog 12 #[.string (strB l)] w fun e w' => e = .returned (.string (strB (if l = [] then zeros 512 else []))) ∧ Below w.heap.size w w' := by
  have e0 : (⟨#[]⟩ : ByteArray).toList = [] := by rw [ByteArray.toList_eq]
  by_cases h : l = []
  · subst h
    obtain ⟨W', hmk, hcv, hB⟩ := made_string 512 (by omega) w
    have Hmk := Lib.hid hmk
    have Hb := Lib.hid hB
    have hb : (strB []).toList.isEmpty = true := by rw [strB_toList]; rfl
    have hb' : (strB []).toList = [] := strB_toList []
    clear hmk hB e0
    go_enter Try.func12, Try.ntmps12
    go_wp2_with (refine wpList_run rfl (exec_makeSlice rfl rfl rfl Hmk.out) ?_)
    all_goals (go_ret; exact ⟨rfl, Hb.out⟩)
  · have hb : (strB l).toList.isEmpty = false := by rw [strB_toList]; simpa using h
    have hb' : ((strB l).toList = []) = False := by rw [strB_toList]; simpa using h
    rw [if_neg h]
    have ee : strB [] = ⟨#[]⟩ := rfl
    rw [ee]
    clear h e0 ee
    go_enter Try.func12, Try.ntmps12
    go_wp2
    all_goals (go_ret; exact ⟨rfl, Below.refl _ _⟩)

set_option maxRecDepth 100000 in
theorem ref_half (n : Nat) (h2 : 2 ≤ n) (hn : n ≤ 65536) (w : World) :
    Calls Try.prog 29 #[.int .i64 (n : Int)] w fun e w' => e = .returned (.int .i64 (((n - 2) / 2 : Nat) : Int)) ∧ w = w' := by
  have e : (((n - 2) / 2 : Nat) : Int) = ((n : Int) - 2) / 2 := by omega
  rw [e]
  have hn' : (n : Int) ≤ 65536 := by omega
  have hn2 : 2 ≤ (n : Int) := by omega
  have hw : IntKind.i64.wrap ((n : Int) - 2) = (n : Int) - 2 := by simp [IntKind.wrap, IntKind.signed, IntKind.bits]; omega
  have hw2 : wrap64 ((n : Int) - 2) = (n : Int) - 2 := by unfold wrap64; omega
  have hd : ((n : Int) - 2).tdiv 2 = ((n : Int) - 2) / 2 := Int.tdiv_eq_ediv_of_nonneg (by omega)
  clear e
  go_enter Try.func29, Try.ntmps29
  go_wp2
  go_ret
  exact ⟨rfl, rfl⟩

theorem wrap_mul (x : Int) : wrap64 (wrap64 x * 256) = wrap64 (x * 256) := by unfold wrap64; omega
theorem or_i64 (A b : Nat) (hb : b < 256) : bits .or .i64 (wrap64 ((A : Int) * 256)) (b : Int) = wrap64 ((b + 256 * A : Nat) : Int) := by
  have h1 : (BitVec.ofInt 64 (wrap64 ((A : Int) * 256))).toNat = A % 72057594037927936 * 256 := by
    rw [BitVec.toNat_ofInt]
    unfold wrap64
    omega
  have h2 : (BitVec.ofInt 64 (b : Int)).toNat = b := by
    rw [BitVec.ofInt_natCast, BitVec.toNat_ofNat]; exact Nat.mod_eq_of_lt (by omega)
  show IntKind.i64.wrap ((BitVec.ofInt 64 (wrap64 ((A : Int) * 256)) ||| BitVec.ofInt 64 (b : Int)).toNat : Int) = _
  rw [BitVec.toNat_or, h1, h2]
  have h := Nat.two_pow_add_eq_or_of_lt (i := 8) (b := b) (by simpa using hb) (A % 72057594037927936)
  have h3 : 2 ^ 8 * (A % 72057594037927936) = A % 72057594037927936 * 256 := by omega
  rw [h3] at h
  rw [← h]
  simp only [IntKind.wrap, IntKind.signed, IntKind.bits, wrap64]
  simp
  omega

set_option maxRecDepth 100000 in
set_option maxHeartbeats 1000000 in
theorem ref_number (l : List UInt8) (hl : l.length = 8) (w : World) :
    Calls Try.prog 34 #[.string (strB l)] w fun e w' => e = .returned (.int .i64 (wrap64 (leNat l))) ∧ w = w' := by
  go_enter Try.func34, Try.ntmps34
  go_wp2
  go_loop [3, 4] (fun n i => ∃ (m : Nat) (v : Int), m ≤ 8 ∧ i = .int .i64 v ∧ v + 1 = m ∧ n = .int .i64 (wrap64 (leNat (l.drop m)))) (fun _ i => (intOf i + 1).toNat)
  case atStart => exact ⟨8, 7, Nat.le_refl _, rfl, rfl, by rw [List.drop_of_length_le (by omega)]; simp [leNat, wrap64]⟩
  case round =>
    obtain ⟨m, v, hm, rfl, hv, rfl⟩ := hrel
    cases m with
    | zero =>
      obtain rfl : v = -1 := by omega
      go_wp2
      go_ret
      exact ⟨rfl, rfl⟩
    | succ j =>
      obtain rfl : v = (j : Int) := by omega
      have hj : j < l.length := by omega
      have hd := List.drop_eq_getElem_cons hj
      have hsz : (strB l).size = 8 := by rw [strB_size, hl]
      have hle : leNat (l.drop j) = l[j].toNat + 256 * leNat (l.drop (j + 1)) := by rw [hd]; rfl
      have hor := or_i64 (leNat (l.drop (j + 1))) l[j].toNat (l[j].toNat_lt)
      rw [← hle] at hor
      have w1 := wrap_mul ((leNat (l.drop (j + 1)) : Nat) : Int)
      have w2 : wrap64 (l[j].toNat : Int) = (l[j].toNat : Int) := by have := l[j].toNat_lt; unfold wrap64; omega
      have Hor := Lib.hid hor
      have W1 := Lib.hid w1
      have W2 := Lib.hid w2
      clear hd hle hv hor w1 w2
      go_wp2
      go_round
      case rel => exact ⟨j, _, by omega, rfl, by omega, by simp only [strB_get, W1.out, W2.out, Hor.out]⟩
      case measure => simp [intOf]
end Go.Proofs.Ytfpmdagchbbkcaa
