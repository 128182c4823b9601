/- The document's Book: what a disk's bytes are as a book. Printed by gen_refb.py. -/
import Derived.Test.YtfpmdagchbbkcaaRefn
import Derived.Test.YtfpmdagchbbkcaaLook2
namespace Go.Proofs.Ytfpmdagchbbkcaa
open Go.RowKit

section
variable {P : Program} {ops : Array Oper} {a : Act} {w : World} {S : World → Prop} {fuel : Nat} {listed : Array Bool} {K : Exit → Act → World → Prop} {o : Oper}
theorem onlyNot (i d : Nat) {oi : Oper} (hi : ops[i]? = some oi) (hdst : oi.dst = some d) (hr : Region.ready .any ops listed = [i]) (hw : Region.wanted oi (yielded ops a.tmps) = false)
    (h : wpE P ops K S fuel (listed.setIfInBounds i true) (a.put (some d) undef) w) (hS : lastly ops i = true ∨ S w) : wpE P ops K S (fuel + 1) listed a w := by
  intro _
  refine ⟨fun h => (by rw [h] at hr; cases hr), fun j hj => ?_⟩
  rw [hr] at hj
  obtain rfl : j = i := by simpa using hj
  unfold wpOp
  simp only [hi, hw]
  exact ⟨hS, hdst ▸ h⟩
theorem exec_bini {op : BinOp} {t t' : TypeId} {x y : Operand} {n m : Int} {v : Value} (ho : o.op = .binOp op t x y t') (hx : a.eval x = .int .i64 n) (hy : a.eval y = .int .i64 m)
    (hr : (binOp op t (.int .i64 n) (.int .i64 m)).run P w = .ok v w) : (execOp a.eval o).run P w = .ok (.value v) w := by
  unfold execOp; rw [ho]; simp only [hx, hy]
  have e : eqGuard op t x y (.int .i64 n) (.int .i64 m) = pure () := by unfold eqGuard; cases op <;> rfl
  simp only [e, Sem.run_bind, Sem.run_pure, Result.andThen_ok, hr]
theorem exec_bins {op : BinOp} {t t' : TypeId} {x y : Operand} {n m : ByteArray} {v : Value} (ho : o.op = .binOp op t x y t') (hx : a.eval x = .string n) (hy : a.eval y = .string m)
    (hr : (binOp op t (.string n) (.string m)).run P w = .ok v w) : (execOp a.eval o).run P w = .ok (.value v) w := by
  unfold execOp; rw [ho]; simp only [hx, hy]
  have e : eqGuard op t x y (.string n) (.string m) = pure () := by unfold eqGuard; cases op <;> rfl
  simp only [e, Sem.run_bind, Sem.run_pure, Result.andThen_ok, hr]
theorem exec_convert {s t : TypeId} {x : Operand} {vx v : Value} {w' : World} (ho : o.op = .convert s t x) (hx : a.eval x = vx) (hr : (convert s t vx).run P w = .ok v w') : (execOp a.eval o).run P w = .ok (.value v) w' := by
  unfold execOp; rw [ho]; simp only [hx, Sem.run_bind, hr, Result.andThen_ok, Sem.run_pure]
end

theorem strB_extract (l : List UInt8) (i j : Nat) : (strB l).extract i j = strB ((l.drop i).take (j - i)) := by
  apply ByteArray.ext
  simp [strB, ByteArray.data_extract]
theorem str_slice (l : List UInt8) (lo hi : Option Int) (i j : Nat) (hlo : ∀ x, lo = some x → x = (i : Int)) (hlo' : lo = none → i = 0) (hhi : ∀ x, hi = some x → x = (j : Int)) (hhi' : hi = none → j = l.length) (h1 : i ≤ j) (h2 : j ≤ l.length) (W : World) :
    (Instr.sliceAt 9 (.string (strB l)) (lo.map (.int .i64)) (hi.map (.int .i64)) none).run Try.prog W = .ok (.string (strB ((l.drop i).take (j - i)))) W := by
  have hsz := strB_size l
  have hb : (Instr.sliceBounds false (strB l).size (strB l).size (lo.map (.int .i64)) (hi.map (.int .i64)) none).run Try.prog W = .ok (i, j, (strB l).size) W := by
    have e1 : ∀ (x y : Nat) (code : BoundsCode), x ≤ y → (Instr.sliceBound (.int .i64 (x : Int)) y code).run Try.prog W = .ok x W := fun x y code hxy => by
      simp [Instr.sliceBound, asIntOf, Sem.run_bind, hxy]
    cases lo with
    | none =>
      obtain rfl := hlo' rfl
      cases hi with
      | none => obtain rfl := hhi' rfl; simp [Instr.sliceBounds, hsz]
      | some x => obtain rfl := hhi x rfl; simp [Instr.sliceBounds, Sem.run_bind, hsz, e1 j l.length _ h2]
    | some y =>
      obtain rfl := hlo y rfl
      cases hi with
      | none => obtain rfl := hhi' rfl; simp [Instr.sliceBounds, Sem.run_bind, hsz, e1 i l.length _ h1]
      | some x => obtain rfl := hhi x rfl; simp [Instr.sliceBounds, Sem.run_bind, hsz, e1 j l.length _ h2, e1 i j _ h1]
  have e : (Instr.sliceAt 9 (.string (strB l)) (lo.map (.int .i64)) (hi.map (.int .i64)) none).run Try.prog W = (Instr.slice 9 (.string (strB l)) (lo.map (.int .i64)) (hi.map (.int .i64)) none).run Try.prog W := by
    simp [Instr.sliceAt, run_underlying Try.underlying9]
  rw [e]
  simp only [Instr.slice, Sem.run_bind, run_underlying Try.underlying9, Result.andThen_ok, hb, Sem.run_pure, Option.isSome_none, Bool.false_eq_true, if_false, strB_extract]

theorem readB_add (d : DM) (p m : Nat) : ∀ q, readB d p (m + q) = readB d p m ++ readB d (p + m) q
  | 0 => by simp [readB]
  | q + 1 => by rw [← Nat.add_assoc, readB_succ, readB_add d p m q, readB_succ, List.append_assoc, Nat.add_assoc]
theorem readB_drop {d : DM} (h : d.Ok) (p m q : Nat) : (readB d p (m + q)).drop (512 * m) = readB d (p + m) q := by
  rw [readB_add, List.drop_left' (readB_length h p m)]
theorem readB_piece {d : DM} (h : d.Ok) (n p q k : Nat) (hk : k ≤ 512 * q) (hn : p + q ≤ n) : ((readB d 0 n).drop (512 * p)).take k = (readB d p q).take k := by
  obtain ⟨r, rfl⟩ : ∃ r, n = p + (q + r) := ⟨n - p - q, by omega⟩
  rw [readB_drop h, Nat.zero_add, readB_add, List.take_append_of_le_length (by rw [readB_length h]; exact hk)]
theorem blkAt_len {d : DM} (h : d.Ok) (k : Nat) : (blkAt d k).length = 512 := by
  have := readB_length h k 1; rw [readB_one] at this; exact this
theorem readB_blk {d : DM} (h : d.Ok) (n k : Nat) (hk : k < n) : ((readB d 0 n).drop (512 * k)).take 512 = blkAt d k := by
  rw [readB_piece h n k 1 512 (by omega) (by omega), readB_one]
  exact List.take_of_length_le (by rw [blkAt_len h]; omega)

theorem headOk_not (b : List UInt8) (k q : Nat) : headOk b k q = (!(decide (hN b < 1)) && !(decide (hN b > 4611686018427387904)) && !((hN b).tmod 2 != (k : Int)) && !(decide (hL b < 0)) && !(decide (hL b > (q : Int) * 512)) && !(decide (b.drop 16 ≠ zeros 496))) := by
  have e1 : decide (1 ≤ hN b) = !(decide (hN b < 1)) := by rw [← decide_not]; congr 1; rw [eq_iff_iff]; omega
  have e2 : decide (hN b ≤ 4611686018427387904) = !(decide (hN b > 4611686018427387904)) := by rw [← decide_not]; congr 1; rw [eq_iff_iff]; omega
  have e3 : ((hN b).tmod 2 == (k : Int)) = !((hN b).tmod 2 != (k : Int)) := by rw [bne, Bool.not_not]
  have e4 : decide (0 ≤ hL b) = !(decide (hL b < 0)) := by rw [← decide_not]; congr 1; rw [eq_iff_iff]; omega
  have e5 : decide (hL b ≤ (q : Int) * 512) = !(decide (hL b > (q : Int) * 512)) := by rw [← decide_not]; congr 1; rw [eq_iff_iff]; omega
  have e6 : decide (b.drop 16 = zeros 496) = !(decide (b.drop 16 ≠ zeros 496)) := by rw [← decide_not]; congr 1; rw [eq_iff_iff, Decidable.not_not]
  unfold headOk
  rw [e1, e2, e3, e4, e5, e6]
theorem run_nes (x y : List UInt8) (W : World) : (binOp .neq 9 (.string (strB x)) (.string (strB y))).run Try.prog W = .ok (.bool (decide (x ≠ y))) W := by
  have e : ((strB x).toList == (strB y).toList) = decide (x = y) := by rw [strB_toList, strB_toList, Bool.eq_iff_iff, beq_iff_eq, decide_eq_true_iff]
  have e' : (x == y) = decide (x = y) := by rw [Bool.eq_iff_iff, beq_iff_eq, decide_eq_true_iff]
  simp [go_sem, e, strB_toList, e']

theorem ref_halfd {d : DM} (h4 : 4 ≤ d.size) (hm : d.size ≤ 65536) (w : World) : Calls Try.prog 29 #[.int .i64 (d.size : Int)] w fun e w' => e = .returned (.int .i64 (hf d : Int)) ∧ w = w' := ref_half d.size (by omega) hm w
def BookEnd (w : World) (d : DM) (e : Ending) (w' : World) : Prop :=
  Below w.heap.size w w' ∧ match looked d with
    | none => e = .returned (.tuple #[.string (strB []), .int .i64 0])
    | some (n, l) => e = .returned (.tuple #[.string (strB l), .int .i64 n])

set_option maxRecDepth 100000 in
set_option maxHeartbeats 4000000 in
theorem ref_book {d : DM} (hok : d.Ok) (h4 : 4 ≤ d.size) (w : World) :
    Calls Try.prog 14 #[.string (strB (readB d 0 d.size))] w (BookEnd w d) := by
  have hlen := readB_length hok 0 d.size
  have hmost := hok.most
  generalize hl : readB d 0 d.size = l at *
  have Hl := Lib.hid hl
  have hsz : (strB l).size = 512 * d.size := by rw [strB_size, hlen]
  have hq : ((strB l).size : Int) / 512 = (d.size : Int) := by rw [hsz]; omega
  have hq' : ((strB l).size : Int).tdiv 512 = (d.size : Int) := by rw [hsz, Int.tdiv_eq_ediv_of_nonneg (by omega)]; omega
  have Hsz := Lib.hid hsz
  have Hlen := Lib.hid hlen
  clear hl hsz hlen
  go_enter Try.func14, Try.ntmps14
  go_wp2_with (go_at_call 29; refine (ref_halfd h4 hmost _).mono ?_; rintro e w1 ⟨rfl, rfl⟩)
  have Hok := Lib.hid hok
  have H4 := Lib.hid h4
  have Hmost := Lib.hid hmost
  clear hq hq' hok h4 hmost
  go_loopw [6, 7, 8] (fun x y i wr => ∃ k : Nat, k ≤ 2 ∧ i = .int .i64 (k : Int) ∧ x = .int .i64 (best (heads d k)).1 ∧ y = .int .i64 (best (heads d k)).2 ∧ Below w.heap.size w wr) (fun _ _ i _ => 2 - (intOf i).toNat)
  case atStart => exact ⟨0, by omega, rfl, rfl, rfl, Below.refl _ _⟩
  case round =>
    obtain ⟨k, hk, rfl, rfl, rfl, hb⟩ := hrel
    have Hb := Lib.hid hb
    clear hb
    by_cases hk2 : k < 2
    · have hblk : strB ((l.drop (512 * k)).take 512) = strB (blkAt d k) := by rw [← Hl.out, readB_blk Hok.out _ _ (by have := H4.out; omega)]
      have hlb : (blkAt d k).length = 512 := blkAt_len Hok.out k
      have hp7 : ∀ W, (Instr.sliceAt 9 (.string (strB l)) (some (.int .i64 ((k : Int) * 512))) (some (.int .i64 ((k : Int) * 512 + 512))) none).run Try.prog W = .ok (.string (strB (blkAt d k))) W := by
        intro W
        have h4 := H4.out
        have := str_slice l (some ((k : Int) * 512)) (some ((k : Int) * 512 + 512)) (512 * k) (512 * k + 512) (fun x h => by cases h; omega) (by simp) (fun x h => by cases h; omega) (by simp) (by omega) (by rw [Hlen.out]; omega) W
        have e : 512 * k + 512 - 512 * k = 512 := by omega
        rw [e, hblk] at this
        exact this
      have hp1 := str_slice (blkAt d k) none (some 8) 0 8 (by simp) (by simp) (by simp) (by simp) (by omega) (by omega)
      have hp2 := str_slice (blkAt d k) (some 8) (some 16) 8 16 (by simp) (by simp) (by simp) (by simp) (by omega) (by omega)
      have hp3 := str_slice (blkAt d k) (some 16) none 16 512 (by simp) (by simp) (by simp) (by intro _; exact hlb.symm) (by omega) (by omega)
      have e3 : ((blkAt d k).drop 16).take (512 - 16) = (blkAt d k).drop 16 := List.take_of_length_le (by rw [List.length_drop, hlb]; omega)
      rw [e3] at hp3
      have hl1 : ((blkAt d k).take 8).length = 8 := by rw [List.length_take, hlb]; omega
      have hl2 : (((blkAt d k).drop 8).take 8).length = 8 := by rw [List.length_take, List.length_drop, hlb]; omega
      have Hp7 := Lib.hid hp7
      have Hp1 := Lib.hid hp1
      have Hp2 := Lib.hid hp2
      have Hp3 := Lib.hid hp3
      have Hl1 := Lib.hid hl1
      have Hl2 := Lib.hid hl2
      clear hblk hlb hp7 hp1 hp2 hp3 e3 hl1 hl2
      go_wp2_with (refine wpList_run rfl (exec_slice rfl rfl rfl rfl rfl (Hp7.out _)) ?_)
      have hp1 := Hp1.out
      have hp2 := Hp2.out
      have hl1 := Hl1.out
      have hl2 := Hl2.out
      refine plain_region_draws (fun _ => True) (by kernel_rfl) trivial (fun _ => ?_)
      refine take 0 29 (v := .string (strB (blkAt d k))) rfl rfl (by kernel_rfl) (by kernel_rfl) (by kernel_rfl) rfl (fun W hW => exec_move rfl rfl) trivial ?_
      simp only [Act.put, List.setIfInBounds_toArray, List.set_cons_zero, List.set_cons_succ]
      refine take 1 30 (v := .string (strB ((blkAt d k).take 8))) rfl rfl (by kernel_rfl) (by kernel_rfl) (by kernel_rfl) rfl (fun W hW => exec_slice rfl rfl rfl rfl rfl (hp1 W)) trivial ?_
      simp only [Act.put, List.setIfInBounds_toArray, List.set_cons_zero, List.set_cons_succ]
      refine take 3 32 (v := .string (strB (blkAt d k))) rfl rfl (by kernel_rfl) (by kernel_rfl) (by kernel_rfl) rfl (fun W hW => exec_move rfl rfl) trivial ?_
      simp only [Act.put, List.setIfInBounds_toArray, List.set_cons_zero, List.set_cons_succ]
      refine take 4 33 (v := .string (strB (((blkAt d k).drop 8).take 8))) rfl rfl (by kernel_rfl) (by kernel_rfl) (by kernel_rfl) rfl (fun W hW => exec_slice rfl rfl rfl rfl rfl (hp2 W)) trivial ?_
      simp only [Act.put, List.setIfInBounds_toArray, List.set_cons_zero, List.set_cons_succ]
      refine onlyCall 2 31 rfl rfl (by kernel_rfl) rfl (exec_call [.string (strB ((blkAt d k).take 8))] rfl rfl Try.func34 (by kernel_rfl) (by kernel_rfl)) ?_
      refine (ref_number _ hl1 _).mono ?_
      rintro e w2 ⟨rfl, rfl⟩
      refine ⟨_, rfl, .inr trivial, ?_⟩
      simp only [Act.put, List.setIfInBounds_toArray, List.set_cons_zero, List.set_cons_succ]
      refine onlyCall 5 34 rfl rfl (by kernel_rfl) rfl (exec_call [.string (strB (((blkAt d k).drop 8).take 8))] rfl rfl Try.func34 (by kernel_rfl) (by kernel_rfl)) ?_
      refine (ref_number _ hl2 _).mono ?_
      rintro e w2 ⟨rfl, rfl⟩
      refine ⟨_, rfl, .inr trivial, ?_⟩
      simp only [Act.put, List.setIfInBounds_toArray, List.set_cons_zero, List.set_cons_succ]
      refine onlyRun 6 10 (v := .int .i64 (hN (blkAt d k))) rfl rfl (by kernel_rfl) rfl (exec_assign rfl rfl) (.inr trivial) ?_
      simp only [Act.put, List.setIfInBounds_toArray, List.set_cons_zero, List.set_cons_succ]
      refine onlyRun 7 11 (v := .int .i64 (hL (blkAt d k))) rfl rfl (by kernel_rfl) rfl (exec_assign rfl rfl) (.inr trivial) ?_
      simp only [Act.put, List.setIfInBounds_toArray, List.set_cons_zero, List.set_cons_succ]
      refine done (by kernel_rfl) ?_ _
      clear hp1 hp2 hl1 hl2
      have HhO := Lib.hid (headOk_not (blkAt d k) k (hf d))
      have hq0 : (hf d : Int) ≤ 65536 := by have := Hmost.out; unfold hf; omega
      have hqw : IntKind.i64.wrap ((hf d : Int) * 512) = (hf d : Int) * 512 := by simp [IntKind.wrap, IntKind.signed, IntKind.bits]; omega
      have Hqw := Lib.hid hqw
      have Hq0 := Lib.hid hq0
      clear hqw hq0
      generalize hn : hN (blkAt d k) = n
      generalize hm : hL (blkAt d k) = m
      have Hn := Lib.hid hn
      have Hm := Lib.hid hm
      clear hn hm
      obtain ⟨W', hmk, hcv, hB⟩ := made_string 496 (by omega) wr.drew.drew
      have Hmk := Lib.hid hmk
      have Hcv := Lib.hid hcv
      have HB := Lib.hid hB
      clear hmk hcv hB
      have b36 : ∀ W, (binOp .lss 2 (.int .i64 n) (.int .i64 1)).run Try.prog W = .ok (.bool (decide (n < 1))) W := fun W => by simp [go_sem]
      have b39 : ∀ W, (binOp .gtr 2 (.int .i64 n) (.int .i64 4611686018427387904)).run Try.prog W = .ok (.bool (decide (n > 4611686018427387904))) W := fun W => by simp [go_sem]
      have b43 : ∀ W, (binOp .rem 2 (.int .i64 n) (.int .i64 2)).run Try.prog W = .ok (.int .i64 (n.tmod 2)) W := fun W => by simp [go_sem]
      have b45 : ∀ W, (binOp .neq 2 (.int .i64 (n.tmod 2)) (.int .i64 (k : Int))).run Try.prog W = .ok (.bool (n.tmod 2 != (k : Int))) W := fun W => by simp [go_sem]
      have b49 : ∀ W, (binOp .lss 2 (.int .i64 m) (.int .i64 0)).run Try.prog W = .ok (.bool (decide (m < 0))) W := fun W => by simp [go_sem]
      have b54 : ∀ W, (binOp .mul 3 (.int .i64 (hf d : Int)) (.int .i64 512)).run Try.prog W = .ok (.int .i64 ((hf d : Int) * 512)) W := fun W => by simp [go_sem, Hqw.out]
      have b55 : ∀ W, (binOp .gtr 2 (.int .i64 m) (.int .i64 ((hf d : Int) * 512))).run Try.prog W = .ok (.bool (decide (m > (hf d : Int) * 512))) W := fun W => by simp [go_sem]
      have b62 : ∀ W, (binOp .neq 9 (.string (strB ((blkAt d k).drop 16))) (.string (strB (zeros 496)))).run Try.prog W = .ok (.bool (decide ((blkAt d k).drop 16 ≠ zeros 496))) W := run_nes _ _
      have HbA := Lib.hid (And.intro b36 (And.intro b39 (And.intro b43 (And.intro b45 (And.intro b49 (And.intro b54 (And.intro b55 b62)))))))
      clear b36 b39 b43 b45 b49 b54 b55 b62
      have HbD : Hid (Below w.heap.size w wr.drew.drew ∧ Below w.heap.size w W') := Lib.hid ⟨Hb.out.drew.drew, (Hb.out.drew.drew).trans (HB.out.mono Hb.out.size)⟩
      generalize hc6 : decide ((blkAt d k).drop 16 ≠ zeros 496) = c6 at *
      have HC6 := Lib.hid hc6
      clear hc6
      go_wp2
      obtain ⟨b36, b39, b43, b45, b49, b54, b55, b62⟩ := HbA.out
      have hp3 := Hp3.out
      have hcases : (decide (n < 1) = true) ∨ (decide (n < 1) = false ∧ decide (n > 4611686018427387904) = true) ∨ (decide (n < 1) = false ∧ decide (n > 4611686018427387904) = false ∧ (n.tmod 2 != (k : Int)) = true) ∨
          (decide (n < 1) = false ∧ decide (n > 4611686018427387904) = false ∧ (n.tmod 2 != (k : Int)) = false ∧ decide (m < 0) = true) ∨
          (decide (n < 1) = false ∧ decide (n > 4611686018427387904) = false ∧ (n.tmod 2 != (k : Int)) = false ∧ decide (m < 0) = false ∧ decide (m > (hf d : Int) * 512) = true) ∨
          (decide (n < 1) = false ∧ decide (n > 4611686018427387904) = false ∧ (n.tmod 2 != (k : Int)) = false ∧ decide (m < 0) = false ∧ decide (m > (hf d : Int) * 512) = false ∧ c6 = true) ∨
          (decide (n < 1) = false ∧ decide (n > 4611686018427387904) = false ∧ (n.tmod 2 != (k : Int)) = false ∧ decide (m < 0) = false ∧ decide (m > (hf d : Int) * 512) = false ∧ c6 = false) := by
        cases decide (n < 1) <;> cases decide (n > 4611686018427387904) <;> cases (n.tmod 2 != (k : Int)) <;> cases decide (m < 0) <;> cases decide (m > (hf d : Int) * 512) <;> cases c6 <;> simp
      rcases hcases with c1 | ⟨c1, c2⟩ | ⟨c1, c2, c3⟩ | ⟨c1, c2, c3, c4⟩ | ⟨c1, c2, c3, c4, c5⟩ | ⟨c1, c2, c3, c4, c5, c6e⟩ | ⟨c1, c2, c3, c4, c5, c6e⟩
      · simp only [c1] at b36
        have hno : headOf d k = none := by unfold headOf; rw [HhO.out, Hn.out, Hm.out, c1]; simp
        have e := heads_none hno
        refine plain_region_draws (fun _ => True) (by kernel_rfl) trivial (fun _ => ?_)
        refine take 0 35 (v := .int .i64 n) rfl rfl (by kernel_rfl) (by kernel_rfl) (by kernel_rfl) rfl (fun W hW => exec_move rfl rfl) trivial ?_
        simp only [Act.put, List.setIfInBounds_toArray, List.set_cons_zero, List.set_cons_succ]
        refine take 1 36 (v := .bool true) rfl rfl (by kernel_rfl) (by kernel_rfl) (by kernel_rfl) rfl (fun W hW => exec_bini rfl rfl rfl (b36 W)) trivial ?_
        simp only [Act.put, List.setIfInBounds_toArray, List.set_cons_zero, List.set_cons_succ]
        refine take 2 37 (v := .bool true) rfl rfl (by kernel_rfl) (by kernel_rfl) (by kernel_rfl) rfl (fun W hW => exec_move rfl rfl) trivial ?_
        simp only [Act.put, List.setIfInBounds_toArray, List.set_cons_zero, List.set_cons_succ]
        refine takeNot 3 38 rfl rfl (by kernel_rfl) (by kernel_rfl) (by kernel_rfl) rfl trivial ?_
        simp only [Act.put, List.setIfInBounds_toArray, List.set_cons_zero, List.set_cons_succ]
        refine takeNot 4 39 rfl rfl (by kernel_rfl) (by kernel_rfl) (by kernel_rfl) rfl trivial ?_
        simp only [Act.put, List.setIfInBounds_toArray, List.set_cons_zero, List.set_cons_succ]
        refine take 5 40 (v := .bool true) rfl rfl (by kernel_rfl) (by kernel_rfl) (by kernel_rfl) rfl (fun W hW => rfl) trivial ?_
        simp only [Act.put, List.setIfInBounds_toArray, List.set_cons_zero, List.set_cons_succ]
        refine take 6 41 (v := .bool true) rfl rfl (by kernel_rfl) (by kernel_rfl) (by kernel_rfl) rfl (fun W hW => exec_move rfl rfl) trivial ?_
        simp only [Act.put, List.setIfInBounds_toArray, List.set_cons_zero, List.set_cons_succ]
        refine takeNot 7 42 rfl rfl (by kernel_rfl) (by kernel_rfl) (by kernel_rfl) rfl trivial ?_
        simp only [Act.put, List.setIfInBounds_toArray, List.set_cons_zero, List.set_cons_succ]
        refine takeNot 8 43 rfl rfl (by kernel_rfl) (by kernel_rfl) (by kernel_rfl) rfl trivial ?_
        simp only [Act.put, List.setIfInBounds_toArray, List.set_cons_zero, List.set_cons_succ]
        refine takeNot 9 44 rfl rfl (by kernel_rfl) (by kernel_rfl) (by kernel_rfl) rfl trivial ?_
        simp only [Act.put, List.setIfInBounds_toArray, List.set_cons_zero, List.set_cons_succ]
        refine takeNot 10 45 rfl rfl (by kernel_rfl) (by kernel_rfl) (by kernel_rfl) rfl trivial ?_
        simp only [Act.put, List.setIfInBounds_toArray, List.set_cons_zero, List.set_cons_succ]
        refine take 11 46 (v := .bool true) rfl rfl (by kernel_rfl) (by kernel_rfl) (by kernel_rfl) rfl (fun W hW => rfl) trivial ?_
        simp only [Act.put, List.setIfInBounds_toArray, List.set_cons_zero, List.set_cons_succ]
        refine take 12 47 (v := .bool true) rfl rfl (by kernel_rfl) (by kernel_rfl) (by kernel_rfl) rfl (fun W hW => exec_move rfl rfl) trivial ?_
        simp only [Act.put, List.setIfInBounds_toArray, List.set_cons_zero, List.set_cons_succ]
        refine takeNot 13 48 rfl rfl (by kernel_rfl) (by kernel_rfl) (by kernel_rfl) rfl trivial ?_
        simp only [Act.put, List.setIfInBounds_toArray, List.set_cons_zero, List.set_cons_succ]
        refine takeNot 14 49 rfl rfl (by kernel_rfl) (by kernel_rfl) (by kernel_rfl) rfl trivial ?_
        simp only [Act.put, List.setIfInBounds_toArray, List.set_cons_zero, List.set_cons_succ]
        refine take 15 50 (v := .bool true) rfl rfl (by kernel_rfl) (by kernel_rfl) (by kernel_rfl) rfl (fun W hW => rfl) trivial ?_
        simp only [Act.put, List.setIfInBounds_toArray, List.set_cons_zero, List.set_cons_succ]
        refine take 16 51 (v := .bool true) rfl rfl (by kernel_rfl) (by kernel_rfl) (by kernel_rfl) rfl (fun W hW => exec_move rfl rfl) trivial ?_
        simp only [Act.put, List.setIfInBounds_toArray, List.set_cons_zero, List.set_cons_succ]
        refine takeNot 17 52 rfl rfl (by kernel_rfl) (by kernel_rfl) (by kernel_rfl) rfl trivial ?_
        simp only [Act.put, List.setIfInBounds_toArray, List.set_cons_zero, List.set_cons_succ]
        refine takeNot 18 53 rfl rfl (by kernel_rfl) (by kernel_rfl) (by kernel_rfl) rfl trivial ?_
        simp only [Act.put, List.setIfInBounds_toArray, List.set_cons_zero, List.set_cons_succ]
        refine takeNot 19 54 rfl rfl (by kernel_rfl) (by kernel_rfl) (by kernel_rfl) rfl trivial ?_
        simp only [Act.put, List.setIfInBounds_toArray, List.set_cons_zero, List.set_cons_succ]
        refine takeNot 20 55 rfl rfl (by kernel_rfl) (by kernel_rfl) (by kernel_rfl) rfl trivial ?_
        simp only [Act.put, List.setIfInBounds_toArray, List.set_cons_zero, List.set_cons_succ]
        refine take 21 56 (v := .bool true) rfl rfl (by kernel_rfl) (by kernel_rfl) (by kernel_rfl) rfl (fun W hW => rfl) trivial ?_
        simp only [Act.put, List.setIfInBounds_toArray, List.set_cons_zero, List.set_cons_succ]
        refine take 22 57 (v := .bool true) rfl rfl (by kernel_rfl) (by kernel_rfl) (by kernel_rfl) rfl (fun W hW => exec_move rfl rfl) trivial ?_
        simp only [Act.put, List.setIfInBounds_toArray, List.set_cons_zero, List.set_cons_succ]
        refine takeNot 23 58 rfl rfl (by kernel_rfl) (by kernel_rfl) (by kernel_rfl) rfl trivial ?_
        simp only [Act.put, List.setIfInBounds_toArray, List.set_cons_zero, List.set_cons_succ]
        refine takeNot 24 59 rfl rfl (by kernel_rfl) (by kernel_rfl) (by kernel_rfl) rfl trivial ?_
        simp only [Act.put, List.setIfInBounds_toArray, List.set_cons_zero, List.set_cons_succ]
        refine onlyNot 25 60 rfl rfl (by kernel_rfl) rfl ?_ (.inr trivial)
        simp only [Act.put, List.setIfInBounds_toArray, List.set_cons_zero, List.set_cons_succ]
        refine onlyNot 26 61 rfl rfl (by kernel_rfl) rfl ?_ (.inr trivial)
        simp only [Act.put, List.setIfInBounds_toArray, List.set_cons_zero, List.set_cons_succ]
        refine takeNot 27 62 rfl rfl (by kernel_rfl) (by kernel_rfl) (by kernel_rfl) rfl trivial ?_
        simp only [Act.put, List.setIfInBounds_toArray, List.set_cons_zero, List.set_cons_succ]
        refine take 28 63 (v := .bool true) rfl rfl (by kernel_rfl) (by kernel_rfl) (by kernel_rfl) rfl (fun W hW => rfl) trivial ?_
        simp only [Act.put, List.setIfInBounds_toArray, List.set_cons_zero, List.set_cons_succ]
        refine done (by kernel_rfl) ?_ _
        clear b36 b39 b43 b45 b49 b54 b55 b62 hp3 c1 hno
        have He := Lib.hid e
        clear e
        go_wp2
        go_roundw
        case rel => exact ⟨k + 1, by omega, by go_num, by rw [He.out], by rw [He.out], HbD.out.1⟩
        case measure => simp [intOf]; omega
      · simp only [c1, c2] at b36 b39
        have hno : headOf d k = none := by unfold headOf; rw [HhO.out, Hn.out, Hm.out, c1, c2]; simp
        have e := heads_none hno
        refine plain_region_draws (fun _ => True) (by kernel_rfl) trivial (fun _ => ?_)
        refine take 0 35 (v := .int .i64 n) rfl rfl (by kernel_rfl) (by kernel_rfl) (by kernel_rfl) rfl (fun W hW => exec_move rfl rfl) trivial ?_
        simp only [Act.put, List.setIfInBounds_toArray, List.set_cons_zero, List.set_cons_succ]
        refine take 1 36 (v := .bool false) rfl rfl (by kernel_rfl) (by kernel_rfl) (by kernel_rfl) rfl (fun W hW => exec_bini rfl rfl rfl (b36 W)) trivial ?_
        simp only [Act.put, List.setIfInBounds_toArray, List.set_cons_zero, List.set_cons_succ]
        refine take 2 37 (v := .bool false) rfl rfl (by kernel_rfl) (by kernel_rfl) (by kernel_rfl) rfl (fun W hW => exec_move rfl rfl) trivial ?_
        simp only [Act.put, List.setIfInBounds_toArray, List.set_cons_zero, List.set_cons_succ]
        refine take 3 38 (v := .int .i64 n) rfl rfl (by kernel_rfl) (by kernel_rfl) (by kernel_rfl) rfl (fun W hW => exec_move rfl rfl) trivial ?_
        simp only [Act.put, List.setIfInBounds_toArray, List.set_cons_zero, List.set_cons_succ]
        refine take 4 39 (v := .bool true) rfl rfl (by kernel_rfl) (by kernel_rfl) (by kernel_rfl) rfl (fun W hW => exec_bini rfl rfl rfl (b39 W)) trivial ?_
        simp only [Act.put, List.setIfInBounds_toArray, List.set_cons_zero, List.set_cons_succ]
        refine take 5 40 (v := .bool true) rfl rfl (by kernel_rfl) (by kernel_rfl) (by kernel_rfl) rfl (fun W hW => rfl) trivial ?_
        simp only [Act.put, List.setIfInBounds_toArray, List.set_cons_zero, List.set_cons_succ]
        refine take 6 41 (v := .bool true) rfl rfl (by kernel_rfl) (by kernel_rfl) (by kernel_rfl) rfl (fun W hW => exec_move rfl rfl) trivial ?_
        simp only [Act.put, List.setIfInBounds_toArray, List.set_cons_zero, List.set_cons_succ]
        refine takeNot 7 42 rfl rfl (by kernel_rfl) (by kernel_rfl) (by kernel_rfl) rfl trivial ?_
        simp only [Act.put, List.setIfInBounds_toArray, List.set_cons_zero, List.set_cons_succ]
        refine takeNot 8 43 rfl rfl (by kernel_rfl) (by kernel_rfl) (by kernel_rfl) rfl trivial ?_
        simp only [Act.put, List.setIfInBounds_toArray, List.set_cons_zero, List.set_cons_succ]
        refine takeNot 9 44 rfl rfl (by kernel_rfl) (by kernel_rfl) (by kernel_rfl) rfl trivial ?_
        simp only [Act.put, List.setIfInBounds_toArray, List.set_cons_zero, List.set_cons_succ]
        refine takeNot 10 45 rfl rfl (by kernel_rfl) (by kernel_rfl) (by kernel_rfl) rfl trivial ?_
        simp only [Act.put, List.setIfInBounds_toArray, List.set_cons_zero, List.set_cons_succ]
        refine take 11 46 (v := .bool true) rfl rfl (by kernel_rfl) (by kernel_rfl) (by kernel_rfl) rfl (fun W hW => rfl) trivial ?_
        simp only [Act.put, List.setIfInBounds_toArray, List.set_cons_zero, List.set_cons_succ]
        refine take 12 47 (v := .bool true) rfl rfl (by kernel_rfl) (by kernel_rfl) (by kernel_rfl) rfl (fun W hW => exec_move rfl rfl) trivial ?_
        simp only [Act.put, List.setIfInBounds_toArray, List.set_cons_zero, List.set_cons_succ]
        refine takeNot 13 48 rfl rfl (by kernel_rfl) (by kernel_rfl) (by kernel_rfl) rfl trivial ?_
        simp only [Act.put, List.setIfInBounds_toArray, List.set_cons_zero, List.set_cons_succ]
        refine takeNot 14 49 rfl rfl (by kernel_rfl) (by kernel_rfl) (by kernel_rfl) rfl trivial ?_
        simp only [Act.put, List.setIfInBounds_toArray, List.set_cons_zero, List.set_cons_succ]
        refine take 15 50 (v := .bool true) rfl rfl (by kernel_rfl) (by kernel_rfl) (by kernel_rfl) rfl (fun W hW => rfl) trivial ?_
        simp only [Act.put, List.setIfInBounds_toArray, List.set_cons_zero, List.set_cons_succ]
        refine take 16 51 (v := .bool true) rfl rfl (by kernel_rfl) (by kernel_rfl) (by kernel_rfl) rfl (fun W hW => exec_move rfl rfl) trivial ?_
        simp only [Act.put, List.setIfInBounds_toArray, List.set_cons_zero, List.set_cons_succ]
        refine takeNot 17 52 rfl rfl (by kernel_rfl) (by kernel_rfl) (by kernel_rfl) rfl trivial ?_
        simp only [Act.put, List.setIfInBounds_toArray, List.set_cons_zero, List.set_cons_succ]
        refine takeNot 18 53 rfl rfl (by kernel_rfl) (by kernel_rfl) (by kernel_rfl) rfl trivial ?_
        simp only [Act.put, List.setIfInBounds_toArray, List.set_cons_zero, List.set_cons_succ]
        refine takeNot 19 54 rfl rfl (by kernel_rfl) (by kernel_rfl) (by kernel_rfl) rfl trivial ?_
        simp only [Act.put, List.setIfInBounds_toArray, List.set_cons_zero, List.set_cons_succ]
        refine takeNot 20 55 rfl rfl (by kernel_rfl) (by kernel_rfl) (by kernel_rfl) rfl trivial ?_
        simp only [Act.put, List.setIfInBounds_toArray, List.set_cons_zero, List.set_cons_succ]
        refine take 21 56 (v := .bool true) rfl rfl (by kernel_rfl) (by kernel_rfl) (by kernel_rfl) rfl (fun W hW => rfl) trivial ?_
        simp only [Act.put, List.setIfInBounds_toArray, List.set_cons_zero, List.set_cons_succ]
        refine take 22 57 (v := .bool true) rfl rfl (by kernel_rfl) (by kernel_rfl) (by kernel_rfl) rfl (fun W hW => exec_move rfl rfl) trivial ?_
        simp only [Act.put, List.setIfInBounds_toArray, List.set_cons_zero, List.set_cons_succ]
        refine takeNot 23 58 rfl rfl (by kernel_rfl) (by kernel_rfl) (by kernel_rfl) rfl trivial ?_
        simp only [Act.put, List.setIfInBounds_toArray, List.set_cons_zero, List.set_cons_succ]
        refine takeNot 24 59 rfl rfl (by kernel_rfl) (by kernel_rfl) (by kernel_rfl) rfl trivial ?_
        simp only [Act.put, List.setIfInBounds_toArray, List.set_cons_zero, List.set_cons_succ]
        refine onlyNot 25 60 rfl rfl (by kernel_rfl) rfl ?_ (.inr trivial)
        simp only [Act.put, List.setIfInBounds_toArray, List.set_cons_zero, List.set_cons_succ]
        refine onlyNot 26 61 rfl rfl (by kernel_rfl) rfl ?_ (.inr trivial)
        simp only [Act.put, List.setIfInBounds_toArray, List.set_cons_zero, List.set_cons_succ]
        refine takeNot 27 62 rfl rfl (by kernel_rfl) (by kernel_rfl) (by kernel_rfl) rfl trivial ?_
        simp only [Act.put, List.setIfInBounds_toArray, List.set_cons_zero, List.set_cons_succ]
        refine take 28 63 (v := .bool true) rfl rfl (by kernel_rfl) (by kernel_rfl) (by kernel_rfl) rfl (fun W hW => rfl) trivial ?_
        simp only [Act.put, List.setIfInBounds_toArray, List.set_cons_zero, List.set_cons_succ]
        refine done (by kernel_rfl) ?_ _
        clear b36 b39 b43 b45 b49 b54 b55 b62 hp3 c1 c2 hno
        have He := Lib.hid e
        clear e
        go_wp2
        go_roundw
        case rel => exact ⟨k + 1, by omega, by go_num, by rw [He.out], by rw [He.out], HbD.out.1⟩
        case measure => simp [intOf]; omega
      · simp only [c1, c2, c3] at b36 b39 b45
        have hno : headOf d k = none := by unfold headOf; rw [HhO.out, Hn.out, Hm.out, c1, c2, c3]; simp
        have e := heads_none hno
        refine plain_region_draws (fun _ => True) (by kernel_rfl) trivial (fun _ => ?_)
        refine take 0 35 (v := .int .i64 n) rfl rfl (by kernel_rfl) (by kernel_rfl) (by kernel_rfl) rfl (fun W hW => exec_move rfl rfl) trivial ?_
        simp only [Act.put, List.setIfInBounds_toArray, List.set_cons_zero, List.set_cons_succ]
        refine take 1 36 (v := .bool false) rfl rfl (by kernel_rfl) (by kernel_rfl) (by kernel_rfl) rfl (fun W hW => exec_bini rfl rfl rfl (b36 W)) trivial ?_
        simp only [Act.put, List.setIfInBounds_toArray, List.set_cons_zero, List.set_cons_succ]
        refine take 2 37 (v := .bool false) rfl rfl (by kernel_rfl) (by kernel_rfl) (by kernel_rfl) rfl (fun W hW => exec_move rfl rfl) trivial ?_
        simp only [Act.put, List.setIfInBounds_toArray, List.set_cons_zero, List.set_cons_succ]
        refine take 3 38 (v := .int .i64 n) rfl rfl (by kernel_rfl) (by kernel_rfl) (by kernel_rfl) rfl (fun W hW => exec_move rfl rfl) trivial ?_
        simp only [Act.put, List.setIfInBounds_toArray, List.set_cons_zero, List.set_cons_succ]
        refine take 4 39 (v := .bool false) rfl rfl (by kernel_rfl) (by kernel_rfl) (by kernel_rfl) rfl (fun W hW => exec_bini rfl rfl rfl (b39 W)) trivial ?_
        simp only [Act.put, List.setIfInBounds_toArray, List.set_cons_zero, List.set_cons_succ]
        refine take 5 40 (v := .bool false) rfl rfl (by kernel_rfl) (by kernel_rfl) (by kernel_rfl) rfl (fun W hW => rfl) trivial ?_
        simp only [Act.put, List.setIfInBounds_toArray, List.set_cons_zero, List.set_cons_succ]
        refine take 6 41 (v := .bool false) rfl rfl (by kernel_rfl) (by kernel_rfl) (by kernel_rfl) rfl (fun W hW => exec_move rfl rfl) trivial ?_
        simp only [Act.put, List.setIfInBounds_toArray, List.set_cons_zero, List.set_cons_succ]
        refine take 7 42 (v := .int .i64 n) rfl rfl (by kernel_rfl) (by kernel_rfl) (by kernel_rfl) rfl (fun W hW => exec_move rfl rfl) trivial ?_
        simp only [Act.put, List.setIfInBounds_toArray, List.set_cons_zero, List.set_cons_succ]
        refine take 8 43 (v := .int .i64 (n.tmod 2)) rfl rfl (by kernel_rfl) (by kernel_rfl) (by kernel_rfl) rfl (fun W hW => exec_bini rfl rfl rfl (b43 W)) trivial ?_
        simp only [Act.put, List.setIfInBounds_toArray, List.set_cons_zero, List.set_cons_succ]
        refine take 9 44 (v := .int .i64 (k : Int)) rfl rfl (by kernel_rfl) (by kernel_rfl) (by kernel_rfl) rfl (fun W hW => exec_move rfl rfl) trivial ?_
        simp only [Act.put, List.setIfInBounds_toArray, List.set_cons_zero, List.set_cons_succ]
        refine take 10 45 (v := .bool true) rfl rfl (by kernel_rfl) (by kernel_rfl) (by kernel_rfl) rfl (fun W hW => exec_bini rfl rfl rfl (b45 W)) trivial ?_
        simp only [Act.put, List.setIfInBounds_toArray, List.set_cons_zero, List.set_cons_succ]
        refine take 11 46 (v := .bool true) rfl rfl (by kernel_rfl) (by kernel_rfl) (by kernel_rfl) rfl (fun W hW => rfl) trivial ?_
        simp only [Act.put, List.setIfInBounds_toArray, List.set_cons_zero, List.set_cons_succ]
        refine take 12 47 (v := .bool true) rfl rfl (by kernel_rfl) (by kernel_rfl) (by kernel_rfl) rfl (fun W hW => exec_move rfl rfl) trivial ?_
        simp only [Act.put, List.setIfInBounds_toArray, List.set_cons_zero, List.set_cons_succ]
        refine takeNot 13 48 rfl rfl (by kernel_rfl) (by kernel_rfl) (by kernel_rfl) rfl trivial ?_
        simp only [Act.put, List.setIfInBounds_toArray, List.set_cons_zero, List.set_cons_succ]
        refine takeNot 14 49 rfl rfl (by kernel_rfl) (by kernel_rfl) (by kernel_rfl) rfl trivial ?_
        simp only [Act.put, List.setIfInBounds_toArray, List.set_cons_zero, List.set_cons_succ]
        refine take 15 50 (v := .bool true) rfl rfl (by kernel_rfl) (by kernel_rfl) (by kernel_rfl) rfl (fun W hW => rfl) trivial ?_
        simp only [Act.put, List.setIfInBounds_toArray, List.set_cons_zero, List.set_cons_succ]
        refine take 16 51 (v := .bool true) rfl rfl (by kernel_rfl) (by kernel_rfl) (by kernel_rfl) rfl (fun W hW => exec_move rfl rfl) trivial ?_
        simp only [Act.put, List.setIfInBounds_toArray, List.set_cons_zero, List.set_cons_succ]
        refine takeNot 17 52 rfl rfl (by kernel_rfl) (by kernel_rfl) (by kernel_rfl) rfl trivial ?_
        simp only [Act.put, List.setIfInBounds_toArray, List.set_cons_zero, List.set_cons_succ]
        refine takeNot 18 53 rfl rfl (by kernel_rfl) (by kernel_rfl) (by kernel_rfl) rfl trivial ?_
        simp only [Act.put, List.setIfInBounds_toArray, List.set_cons_zero, List.set_cons_succ]
        refine takeNot 19 54 rfl rfl (by kernel_rfl) (by kernel_rfl) (by kernel_rfl) rfl trivial ?_
        simp only [Act.put, List.setIfInBounds_toArray, List.set_cons_zero, List.set_cons_succ]
        refine takeNot 20 55 rfl rfl (by kernel_rfl) (by kernel_rfl) (by kernel_rfl) rfl trivial ?_
        simp only [Act.put, List.setIfInBounds_toArray, List.set_cons_zero, List.set_cons_succ]
        refine take 21 56 (v := .bool true) rfl rfl (by kernel_rfl) (by kernel_rfl) (by kernel_rfl) rfl (fun W hW => rfl) trivial ?_
        simp only [Act.put, List.setIfInBounds_toArray, List.set_cons_zero, List.set_cons_succ]
        refine take 22 57 (v := .bool true) rfl rfl (by kernel_rfl) (by kernel_rfl) (by kernel_rfl) rfl (fun W hW => exec_move rfl rfl) trivial ?_
        simp only [Act.put, List.setIfInBounds_toArray, List.set_cons_zero, List.set_cons_succ]
        refine takeNot 23 58 rfl rfl (by kernel_rfl) (by kernel_rfl) (by kernel_rfl) rfl trivial ?_
        simp only [Act.put, List.setIfInBounds_toArray, List.set_cons_zero, List.set_cons_succ]
        refine takeNot 24 59 rfl rfl (by kernel_rfl) (by kernel_rfl) (by kernel_rfl) rfl trivial ?_
        simp only [Act.put, List.setIfInBounds_toArray, List.set_cons_zero, List.set_cons_succ]
        refine onlyNot 25 60 rfl rfl (by kernel_rfl) rfl ?_ (.inr trivial)
        simp only [Act.put, List.setIfInBounds_toArray, List.set_cons_zero, List.set_cons_succ]
        refine onlyNot 26 61 rfl rfl (by kernel_rfl) rfl ?_ (.inr trivial)
        simp only [Act.put, List.setIfInBounds_toArray, List.set_cons_zero, List.set_cons_succ]
        refine takeNot 27 62 rfl rfl (by kernel_rfl) (by kernel_rfl) (by kernel_rfl) rfl trivial ?_
        simp only [Act.put, List.setIfInBounds_toArray, List.set_cons_zero, List.set_cons_succ]
        refine take 28 63 (v := .bool true) rfl rfl (by kernel_rfl) (by kernel_rfl) (by kernel_rfl) rfl (fun W hW => rfl) trivial ?_
        simp only [Act.put, List.setIfInBounds_toArray, List.set_cons_zero, List.set_cons_succ]
        refine done (by kernel_rfl) ?_ _
        clear b36 b39 b43 b45 b49 b54 b55 b62 hp3 c1 c2 c3 hno
        have He := Lib.hid e
        clear e
        go_wp2
        go_roundw
        case rel => exact ⟨k + 1, by omega, by go_num, by rw [He.out], by rw [He.out], HbD.out.1⟩
        case measure => simp [intOf]; omega
      · simp only [c1, c2, c3, c4] at b36 b39 b45 b49
        have hno : headOf d k = none := by unfold headOf; rw [HhO.out, Hn.out, Hm.out, c1, c2, c3, c4]; simp
        have e := heads_none hno
        refine plain_region_draws (fun _ => True) (by kernel_rfl) trivial (fun _ => ?_)
        refine take 0 35 (v := .int .i64 n) rfl rfl (by kernel_rfl) (by kernel_rfl) (by kernel_rfl) rfl (fun W hW => exec_move rfl rfl) trivial ?_
        simp only [Act.put, List.setIfInBounds_toArray, List.set_cons_zero, List.set_cons_succ]
        refine take 1 36 (v := .bool false) rfl rfl (by kernel_rfl) (by kernel_rfl) (by kernel_rfl) rfl (fun W hW => exec_bini rfl rfl rfl (b36 W)) trivial ?_
        simp only [Act.put, List.setIfInBounds_toArray, List.set_cons_zero, List.set_cons_succ]
        refine take 2 37 (v := .bool false) rfl rfl (by kernel_rfl) (by kernel_rfl) (by kernel_rfl) rfl (fun W hW => exec_move rfl rfl) trivial ?_
        simp only [Act.put, List.setIfInBounds_toArray, List.set_cons_zero, List.set_cons_succ]
        refine take 3 38 (v := .int .i64 n) rfl rfl (by kernel_rfl) (by kernel_rfl) (by kernel_rfl) rfl (fun W hW => exec_move rfl rfl) trivial ?_
        simp only [Act.put, List.setIfInBounds_toArray, List.set_cons_zero, List.set_cons_succ]
        refine take 4 39 (v := .bool false) rfl rfl (by kernel_rfl) (by kernel_rfl) (by kernel_rfl) rfl (fun W hW => exec_bini rfl rfl rfl (b39 W)) trivial ?_
        simp only [Act.put, List.setIfInBounds_toArray, List.set_cons_zero, List.set_cons_succ]
        refine take 5 40 (v := .bool false) rfl rfl (by kernel_rfl) (by kernel_rfl) (by kernel_rfl) rfl (fun W hW => rfl) trivial ?_
        simp only [Act.put, List.setIfInBounds_toArray, List.set_cons_zero, List.set_cons_succ]
        refine take 6 41 (v := .bool false) rfl rfl (by kernel_rfl) (by kernel_rfl) (by kernel_rfl) rfl (fun W hW => exec_move rfl rfl) trivial ?_
        simp only [Act.put, List.setIfInBounds_toArray, List.set_cons_zero, List.set_cons_succ]
        refine take 7 42 (v := .int .i64 n) rfl rfl (by kernel_rfl) (by kernel_rfl) (by kernel_rfl) rfl (fun W hW => exec_move rfl rfl) trivial ?_
        simp only [Act.put, List.setIfInBounds_toArray, List.set_cons_zero, List.set_cons_succ]
        refine take 8 43 (v := .int .i64 (n.tmod 2)) rfl rfl (by kernel_rfl) (by kernel_rfl) (by kernel_rfl) rfl (fun W hW => exec_bini rfl rfl rfl (b43 W)) trivial ?_
        simp only [Act.put, List.setIfInBounds_toArray, List.set_cons_zero, List.set_cons_succ]
        refine take 9 44 (v := .int .i64 (k : Int)) rfl rfl (by kernel_rfl) (by kernel_rfl) (by kernel_rfl) rfl (fun W hW => exec_move rfl rfl) trivial ?_
        simp only [Act.put, List.setIfInBounds_toArray, List.set_cons_zero, List.set_cons_succ]
        refine take 10 45 (v := .bool false) rfl rfl (by kernel_rfl) (by kernel_rfl) (by kernel_rfl) rfl (fun W hW => exec_bini rfl rfl rfl (b45 W)) trivial ?_
        simp only [Act.put, List.setIfInBounds_toArray, List.set_cons_zero, List.set_cons_succ]
        refine take 11 46 (v := .bool false) rfl rfl (by kernel_rfl) (by kernel_rfl) (by kernel_rfl) rfl (fun W hW => rfl) trivial ?_
        simp only [Act.put, List.setIfInBounds_toArray, List.set_cons_zero, List.set_cons_succ]
        refine take 12 47 (v := .bool false) rfl rfl (by kernel_rfl) (by kernel_rfl) (by kernel_rfl) rfl (fun W hW => exec_move rfl rfl) trivial ?_
        simp only [Act.put, List.setIfInBounds_toArray, List.set_cons_zero, List.set_cons_succ]
        refine take 13 48 (v := .int .i64 m) rfl rfl (by kernel_rfl) (by kernel_rfl) (by kernel_rfl) rfl (fun W hW => exec_move rfl rfl) trivial ?_
        simp only [Act.put, List.setIfInBounds_toArray, List.set_cons_zero, List.set_cons_succ]
        refine take 14 49 (v := .bool true) rfl rfl (by kernel_rfl) (by kernel_rfl) (by kernel_rfl) rfl (fun W hW => exec_bini rfl rfl rfl (b49 W)) trivial ?_
        simp only [Act.put, List.setIfInBounds_toArray, List.set_cons_zero, List.set_cons_succ]
        refine take 15 50 (v := .bool true) rfl rfl (by kernel_rfl) (by kernel_rfl) (by kernel_rfl) rfl (fun W hW => rfl) trivial ?_
        simp only [Act.put, List.setIfInBounds_toArray, List.set_cons_zero, List.set_cons_succ]
        refine take 16 51 (v := .bool true) rfl rfl (by kernel_rfl) (by kernel_rfl) (by kernel_rfl) rfl (fun W hW => exec_move rfl rfl) trivial ?_
        simp only [Act.put, List.setIfInBounds_toArray, List.set_cons_zero, List.set_cons_succ]
        refine takeNot 17 52 rfl rfl (by kernel_rfl) (by kernel_rfl) (by kernel_rfl) rfl trivial ?_
        simp only [Act.put, List.setIfInBounds_toArray, List.set_cons_zero, List.set_cons_succ]
        refine takeNot 18 53 rfl rfl (by kernel_rfl) (by kernel_rfl) (by kernel_rfl) rfl trivial ?_
        simp only [Act.put, List.setIfInBounds_toArray, List.set_cons_zero, List.set_cons_succ]
        refine takeNot 19 54 rfl rfl (by kernel_rfl) (by kernel_rfl) (by kernel_rfl) rfl trivial ?_
        simp only [Act.put, List.setIfInBounds_toArray, List.set_cons_zero, List.set_cons_succ]
        refine takeNot 20 55 rfl rfl (by kernel_rfl) (by kernel_rfl) (by kernel_rfl) rfl trivial ?_
        simp only [Act.put, List.setIfInBounds_toArray, List.set_cons_zero, List.set_cons_succ]
        refine take 21 56 (v := .bool true) rfl rfl (by kernel_rfl) (by kernel_rfl) (by kernel_rfl) rfl (fun W hW => rfl) trivial ?_
        simp only [Act.put, List.setIfInBounds_toArray, List.set_cons_zero, List.set_cons_succ]
        refine take 22 57 (v := .bool true) rfl rfl (by kernel_rfl) (by kernel_rfl) (by kernel_rfl) rfl (fun W hW => exec_move rfl rfl) trivial ?_
        simp only [Act.put, List.setIfInBounds_toArray, List.set_cons_zero, List.set_cons_succ]
        refine takeNot 23 58 rfl rfl (by kernel_rfl) (by kernel_rfl) (by kernel_rfl) rfl trivial ?_
        simp only [Act.put, List.setIfInBounds_toArray, List.set_cons_zero, List.set_cons_succ]
        refine takeNot 24 59 rfl rfl (by kernel_rfl) (by kernel_rfl) (by kernel_rfl) rfl trivial ?_
        simp only [Act.put, List.setIfInBounds_toArray, List.set_cons_zero, List.set_cons_succ]
        refine onlyNot 25 60 rfl rfl (by kernel_rfl) rfl ?_ (.inr trivial)
        simp only [Act.put, List.setIfInBounds_toArray, List.set_cons_zero, List.set_cons_succ]
        refine onlyNot 26 61 rfl rfl (by kernel_rfl) rfl ?_ (.inr trivial)
        simp only [Act.put, List.setIfInBounds_toArray, List.set_cons_zero, List.set_cons_succ]
        refine takeNot 27 62 rfl rfl (by kernel_rfl) (by kernel_rfl) (by kernel_rfl) rfl trivial ?_
        simp only [Act.put, List.setIfInBounds_toArray, List.set_cons_zero, List.set_cons_succ]
        refine take 28 63 (v := .bool true) rfl rfl (by kernel_rfl) (by kernel_rfl) (by kernel_rfl) rfl (fun W hW => rfl) trivial ?_
        simp only [Act.put, List.setIfInBounds_toArray, List.set_cons_zero, List.set_cons_succ]
        refine done (by kernel_rfl) ?_ _
        clear b36 b39 b43 b45 b49 b54 b55 b62 hp3 c1 c2 c3 c4 hno
        have He := Lib.hid e
        clear e
        go_wp2
        go_roundw
        case rel => exact ⟨k + 1, by omega, by go_num, by rw [He.out], by rw [He.out], HbD.out.1⟩
        case measure => simp [intOf]; omega
      · simp only [c1, c2, c3, c4, c5] at b36 b39 b45 b49 b55
        have hno : headOf d k = none := by unfold headOf; rw [HhO.out, Hn.out, Hm.out, c1, c2, c3, c4, c5]; simp
        have e := heads_none hno
        refine plain_region_draws (fun _ => True) (by kernel_rfl) trivial (fun _ => ?_)
        refine take 0 35 (v := .int .i64 n) rfl rfl (by kernel_rfl) (by kernel_rfl) (by kernel_rfl) rfl (fun W hW => exec_move rfl rfl) trivial ?_
        simp only [Act.put, List.setIfInBounds_toArray, List.set_cons_zero, List.set_cons_succ]
        refine take 1 36 (v := .bool false) rfl rfl (by kernel_rfl) (by kernel_rfl) (by kernel_rfl) rfl (fun W hW => exec_bini rfl rfl rfl (b36 W)) trivial ?_
        simp only [Act.put, List.setIfInBounds_toArray, List.set_cons_zero, List.set_cons_succ]
        refine take 2 37 (v := .bool false) rfl rfl (by kernel_rfl) (by kernel_rfl) (by kernel_rfl) rfl (fun W hW => exec_move rfl rfl) trivial ?_
        simp only [Act.put, List.setIfInBounds_toArray, List.set_cons_zero, List.set_cons_succ]
        refine take 3 38 (v := .int .i64 n) rfl rfl (by kernel_rfl) (by kernel_rfl) (by kernel_rfl) rfl (fun W hW => exec_move rfl rfl) trivial ?_
        simp only [Act.put, List.setIfInBounds_toArray, List.set_cons_zero, List.set_cons_succ]
        refine take 4 39 (v := .bool false) rfl rfl (by kernel_rfl) (by kernel_rfl) (by kernel_rfl) rfl (fun W hW => exec_bini rfl rfl rfl (b39 W)) trivial ?_
        simp only [Act.put, List.setIfInBounds_toArray, List.set_cons_zero, List.set_cons_succ]
        refine take 5 40 (v := .bool false) rfl rfl (by kernel_rfl) (by kernel_rfl) (by kernel_rfl) rfl (fun W hW => rfl) trivial ?_
        simp only [Act.put, List.setIfInBounds_toArray, List.set_cons_zero, List.set_cons_succ]
        refine take 6 41 (v := .bool false) rfl rfl (by kernel_rfl) (by kernel_rfl) (by kernel_rfl) rfl (fun W hW => exec_move rfl rfl) trivial ?_
        simp only [Act.put, List.setIfInBounds_toArray, List.set_cons_zero, List.set_cons_succ]
        refine take 7 42 (v := .int .i64 n) rfl rfl (by kernel_rfl) (by kernel_rfl) (by kernel_rfl) rfl (fun W hW => exec_move rfl rfl) trivial ?_
        simp only [Act.put, List.setIfInBounds_toArray, List.set_cons_zero, List.set_cons_succ]
        refine take 8 43 (v := .int .i64 (n.tmod 2)) rfl rfl (by kernel_rfl) (by kernel_rfl) (by kernel_rfl) rfl (fun W hW => exec_bini rfl rfl rfl (b43 W)) trivial ?_
        simp only [Act.put, List.setIfInBounds_toArray, List.set_cons_zero, List.set_cons_succ]
        refine take 9 44 (v := .int .i64 (k : Int)) rfl rfl (by kernel_rfl) (by kernel_rfl) (by kernel_rfl) rfl (fun W hW => exec_move rfl rfl) trivial ?_
        simp only [Act.put, List.setIfInBounds_toArray, List.set_cons_zero, List.set_cons_succ]
        refine take 10 45 (v := .bool false) rfl rfl (by kernel_rfl) (by kernel_rfl) (by kernel_rfl) rfl (fun W hW => exec_bini rfl rfl rfl (b45 W)) trivial ?_
        simp only [Act.put, List.setIfInBounds_toArray, List.set_cons_zero, List.set_cons_succ]
        refine take 11 46 (v := .bool false) rfl rfl (by kernel_rfl) (by kernel_rfl) (by kernel_rfl) rfl (fun W hW => rfl) trivial ?_
        simp only [Act.put, List.setIfInBounds_toArray, List.set_cons_zero, List.set_cons_succ]
        refine take 12 47 (v := .bool false) rfl rfl (by kernel_rfl) (by kernel_rfl) (by kernel_rfl) rfl (fun W hW => exec_move rfl rfl) trivial ?_
        simp only [Act.put, List.setIfInBounds_toArray, List.set_cons_zero, List.set_cons_succ]
        refine take 13 48 (v := .int .i64 m) rfl rfl (by kernel_rfl) (by kernel_rfl) (by kernel_rfl) rfl (fun W hW => exec_move rfl rfl) trivial ?_
        simp only [Act.put, List.setIfInBounds_toArray, List.set_cons_zero, List.set_cons_succ]
        refine take 14 49 (v := .bool false) rfl rfl (by kernel_rfl) (by kernel_rfl) (by kernel_rfl) rfl (fun W hW => exec_bini rfl rfl rfl (b49 W)) trivial ?_
        simp only [Act.put, List.setIfInBounds_toArray, List.set_cons_zero, List.set_cons_succ]
        refine take 15 50 (v := .bool false) rfl rfl (by kernel_rfl) (by kernel_rfl) (by kernel_rfl) rfl (fun W hW => rfl) trivial ?_
        simp only [Act.put, List.setIfInBounds_toArray, List.set_cons_zero, List.set_cons_succ]
        refine take 16 51 (v := .bool false) rfl rfl (by kernel_rfl) (by kernel_rfl) (by kernel_rfl) rfl (fun W hW => exec_move rfl rfl) trivial ?_
        simp only [Act.put, List.setIfInBounds_toArray, List.set_cons_zero, List.set_cons_succ]
        refine take 17 52 (v := .int .i64 m) rfl rfl (by kernel_rfl) (by kernel_rfl) (by kernel_rfl) rfl (fun W hW => exec_move rfl rfl) trivial ?_
        simp only [Act.put, List.setIfInBounds_toArray, List.set_cons_zero, List.set_cons_succ]
        refine take 18 53 (v := .int .i64 (hf d : Int)) rfl rfl (by kernel_rfl) (by kernel_rfl) (by kernel_rfl) rfl (fun W hW => exec_move rfl rfl) trivial ?_
        simp only [Act.put, List.setIfInBounds_toArray, List.set_cons_zero, List.set_cons_succ]
        refine take 19 54 (v := .int .i64 ((hf d : Int) * 512)) rfl rfl (by kernel_rfl) (by kernel_rfl) (by kernel_rfl) rfl (fun W hW => exec_bini rfl rfl rfl (b54 W)) trivial ?_
        simp only [Act.put, List.setIfInBounds_toArray, List.set_cons_zero, List.set_cons_succ]
        refine take 20 55 (v := .bool true) rfl rfl (by kernel_rfl) (by kernel_rfl) (by kernel_rfl) rfl (fun W hW => exec_bini rfl rfl rfl (b55 W)) trivial ?_
        simp only [Act.put, List.setIfInBounds_toArray, List.set_cons_zero, List.set_cons_succ]
        refine take 21 56 (v := .bool true) rfl rfl (by kernel_rfl) (by kernel_rfl) (by kernel_rfl) rfl (fun W hW => rfl) trivial ?_
        simp only [Act.put, List.setIfInBounds_toArray, List.set_cons_zero, List.set_cons_succ]
        refine take 22 57 (v := .bool true) rfl rfl (by kernel_rfl) (by kernel_rfl) (by kernel_rfl) rfl (fun W hW => exec_move rfl rfl) trivial ?_
        simp only [Act.put, List.setIfInBounds_toArray, List.set_cons_zero, List.set_cons_succ]
        refine takeNot 23 58 rfl rfl (by kernel_rfl) (by kernel_rfl) (by kernel_rfl) rfl trivial ?_
        simp only [Act.put, List.setIfInBounds_toArray, List.set_cons_zero, List.set_cons_succ]
        refine takeNot 24 59 rfl rfl (by kernel_rfl) (by kernel_rfl) (by kernel_rfl) rfl trivial ?_
        simp only [Act.put, List.setIfInBounds_toArray, List.set_cons_zero, List.set_cons_succ]
        refine onlyNot 25 60 rfl rfl (by kernel_rfl) rfl ?_ (.inr trivial)
        simp only [Act.put, List.setIfInBounds_toArray, List.set_cons_zero, List.set_cons_succ]
        refine onlyNot 26 61 rfl rfl (by kernel_rfl) rfl ?_ (.inr trivial)
        simp only [Act.put, List.setIfInBounds_toArray, List.set_cons_zero, List.set_cons_succ]
        refine takeNot 27 62 rfl rfl (by kernel_rfl) (by kernel_rfl) (by kernel_rfl) rfl trivial ?_
        simp only [Act.put, List.setIfInBounds_toArray, List.set_cons_zero, List.set_cons_succ]
        refine take 28 63 (v := .bool true) rfl rfl (by kernel_rfl) (by kernel_rfl) (by kernel_rfl) rfl (fun W hW => rfl) trivial ?_
        simp only [Act.put, List.setIfInBounds_toArray, List.set_cons_zero, List.set_cons_succ]
        refine done (by kernel_rfl) ?_ _
        clear b36 b39 b43 b45 b49 b54 b55 b62 hp3 c1 c2 c3 c4 c5 hno
        have He := Lib.hid e
        clear e
        go_wp2
        go_roundw
        case rel => exact ⟨k + 1, by omega, by go_num, by rw [He.out], by rw [He.out], HbD.out.1⟩
        case measure => simp [intOf]; omega
      · simp only [c1, c2, c3, c4, c5, c6e] at b36 b39 b45 b49 b55 b62
        have hno : headOf d k = none := by unfold headOf; rw [HhO.out, Hn.out, Hm.out, c1, c2, c3, c4, c5, c6e]; simp
        have e := heads_none hno
        refine plain_region_draws (fun _ => True) (by kernel_rfl) trivial (fun _ => ?_)
        refine take 0 35 (v := .int .i64 n) rfl rfl (by kernel_rfl) (by kernel_rfl) (by kernel_rfl) rfl (fun W hW => exec_move rfl rfl) trivial ?_
        simp only [Act.put, List.setIfInBounds_toArray, List.set_cons_zero, List.set_cons_succ]
        refine take 1 36 (v := .bool false) rfl rfl (by kernel_rfl) (by kernel_rfl) (by kernel_rfl) rfl (fun W hW => exec_bini rfl rfl rfl (b36 W)) trivial ?_
        simp only [Act.put, List.setIfInBounds_toArray, List.set_cons_zero, List.set_cons_succ]
        refine take 2 37 (v := .bool false) rfl rfl (by kernel_rfl) (by kernel_rfl) (by kernel_rfl) rfl (fun W hW => exec_move rfl rfl) trivial ?_
        simp only [Act.put, List.setIfInBounds_toArray, List.set_cons_zero, List.set_cons_succ]
        refine take 3 38 (v := .int .i64 n) rfl rfl (by kernel_rfl) (by kernel_rfl) (by kernel_rfl) rfl (fun W hW => exec_move rfl rfl) trivial ?_
        simp only [Act.put, List.setIfInBounds_toArray, List.set_cons_zero, List.set_cons_succ]
        refine take 4 39 (v := .bool false) rfl rfl (by kernel_rfl) (by kernel_rfl) (by kernel_rfl) rfl (fun W hW => exec_bini rfl rfl rfl (b39 W)) trivial ?_
        simp only [Act.put, List.setIfInBounds_toArray, List.set_cons_zero, List.set_cons_succ]
        refine take 5 40 (v := .bool false) rfl rfl (by kernel_rfl) (by kernel_rfl) (by kernel_rfl) rfl (fun W hW => rfl) trivial ?_
        simp only [Act.put, List.setIfInBounds_toArray, List.set_cons_zero, List.set_cons_succ]
        refine take 6 41 (v := .bool false) rfl rfl (by kernel_rfl) (by kernel_rfl) (by kernel_rfl) rfl (fun W hW => exec_move rfl rfl) trivial ?_
        simp only [Act.put, List.setIfInBounds_toArray, List.set_cons_zero, List.set_cons_succ]
        refine take 7 42 (v := .int .i64 n) rfl rfl (by kernel_rfl) (by kernel_rfl) (by kernel_rfl) rfl (fun W hW => exec_move rfl rfl) trivial ?_
        simp only [Act.put, List.setIfInBounds_toArray, List.set_cons_zero, List.set_cons_succ]
        refine take 8 43 (v := .int .i64 (n.tmod 2)) rfl rfl (by kernel_rfl) (by kernel_rfl) (by kernel_rfl) rfl (fun W hW => exec_bini rfl rfl rfl (b43 W)) trivial ?_
        simp only [Act.put, List.setIfInBounds_toArray, List.set_cons_zero, List.set_cons_succ]
        refine take 9 44 (v := .int .i64 (k : Int)) rfl rfl (by kernel_rfl) (by kernel_rfl) (by kernel_rfl) rfl (fun W hW => exec_move rfl rfl) trivial ?_
        simp only [Act.put, List.setIfInBounds_toArray, List.set_cons_zero, List.set_cons_succ]
        refine take 10 45 (v := .bool false) rfl rfl (by kernel_rfl) (by kernel_rfl) (by kernel_rfl) rfl (fun W hW => exec_bini rfl rfl rfl (b45 W)) trivial ?_
        simp only [Act.put, List.setIfInBounds_toArray, List.set_cons_zero, List.set_cons_succ]
        refine take 11 46 (v := .bool false) rfl rfl (by kernel_rfl) (by kernel_rfl) (by kernel_rfl) rfl (fun W hW => rfl) trivial ?_
        simp only [Act.put, List.setIfInBounds_toArray, List.set_cons_zero, List.set_cons_succ]
        refine take 12 47 (v := .bool false) rfl rfl (by kernel_rfl) (by kernel_rfl) (by kernel_rfl) rfl (fun W hW => exec_move rfl rfl) trivial ?_
        simp only [Act.put, List.setIfInBounds_toArray, List.set_cons_zero, List.set_cons_succ]
        refine take 13 48 (v := .int .i64 m) rfl rfl (by kernel_rfl) (by kernel_rfl) (by kernel_rfl) rfl (fun W hW => exec_move rfl rfl) trivial ?_
        simp only [Act.put, List.setIfInBounds_toArray, List.set_cons_zero, List.set_cons_succ]
        refine take 14 49 (v := .bool false) rfl rfl (by kernel_rfl) (by kernel_rfl) (by kernel_rfl) rfl (fun W hW => exec_bini rfl rfl rfl (b49 W)) trivial ?_
        simp only [Act.put, List.setIfInBounds_toArray, List.set_cons_zero, List.set_cons_succ]
        refine take 15 50 (v := .bool false) rfl rfl (by kernel_rfl) (by kernel_rfl) (by kernel_rfl) rfl (fun W hW => rfl) trivial ?_
        simp only [Act.put, List.setIfInBounds_toArray, List.set_cons_zero, List.set_cons_succ]
        refine take 16 51 (v := .bool false) rfl rfl (by kernel_rfl) (by kernel_rfl) (by kernel_rfl) rfl (fun W hW => exec_move rfl rfl) trivial ?_
        simp only [Act.put, List.setIfInBounds_toArray, List.set_cons_zero, List.set_cons_succ]
        refine take 17 52 (v := .int .i64 m) rfl rfl (by kernel_rfl) (by kernel_rfl) (by kernel_rfl) rfl (fun W hW => exec_move rfl rfl) trivial ?_
        simp only [Act.put, List.setIfInBounds_toArray, List.set_cons_zero, List.set_cons_succ]
        refine take 18 53 (v := .int .i64 (hf d : Int)) rfl rfl (by kernel_rfl) (by kernel_rfl) (by kernel_rfl) rfl (fun W hW => exec_move rfl rfl) trivial ?_
        simp only [Act.put, List.setIfInBounds_toArray, List.set_cons_zero, List.set_cons_succ]
        refine take 19 54 (v := .int .i64 ((hf d : Int) * 512)) rfl rfl (by kernel_rfl) (by kernel_rfl) (by kernel_rfl) rfl (fun W hW => exec_bini rfl rfl rfl (b54 W)) trivial ?_
        simp only [Act.put, List.setIfInBounds_toArray, List.set_cons_zero, List.set_cons_succ]
        refine take 20 55 (v := .bool false) rfl rfl (by kernel_rfl) (by kernel_rfl) (by kernel_rfl) rfl (fun W hW => exec_bini rfl rfl rfl (b55 W)) trivial ?_
        simp only [Act.put, List.setIfInBounds_toArray, List.set_cons_zero, List.set_cons_succ]
        refine take 21 56 (v := .bool false) rfl rfl (by kernel_rfl) (by kernel_rfl) (by kernel_rfl) rfl (fun W hW => rfl) trivial ?_
        simp only [Act.put, List.setIfInBounds_toArray, List.set_cons_zero, List.set_cons_succ]
        refine take 22 57 (v := .bool false) rfl rfl (by kernel_rfl) (by kernel_rfl) (by kernel_rfl) rfl (fun W hW => exec_move rfl rfl) trivial ?_
        simp only [Act.put, List.setIfInBounds_toArray, List.set_cons_zero, List.set_cons_succ]
        refine take 23 58 (v := .string (strB (blkAt d k))) rfl rfl (by kernel_rfl) (by kernel_rfl) (by kernel_rfl) rfl (fun W hW => exec_move rfl rfl) trivial ?_
        simp only [Act.put, List.setIfInBounds_toArray, List.set_cons_zero, List.set_cons_succ]
        refine take 24 59 (v := .string (strB ((blkAt d k).drop 16))) rfl rfl (by kernel_rfl) (by kernel_rfl) (by kernel_rfl) rfl (fun W hW => exec_slice rfl rfl rfl rfl rfl (hp3 W)) trivial ?_
        simp only [Act.put, List.setIfInBounds_toArray, List.set_cons_zero, List.set_cons_succ]
        refine onlyRun 25 60 (v := .slice (some ⟨wr.drew.drew.heap.size, 0, none⟩) 496 496) rfl rfl (by kernel_rfl) rfl (exec_makeSlice rfl rfl rfl Hmk.out) (.inr trivial) ?_
        simp only [Act.put, List.setIfInBounds_toArray, List.set_cons_zero, List.set_cons_succ]
        refine onlyRun 26 61 (v := .string (strB (zeros 496))) rfl rfl (by kernel_rfl) rfl (exec_convert rfl rfl Hcv.out) (.inr trivial) ?_
        simp only [Act.put, List.setIfInBounds_toArray, List.set_cons_zero, List.set_cons_succ]
        refine take 27 62 (v := .bool true) rfl rfl (by kernel_rfl) (by kernel_rfl) (by kernel_rfl) rfl (fun W hW => exec_bins rfl rfl rfl (b62 W)) trivial ?_
        simp only [Act.put, List.setIfInBounds_toArray, List.set_cons_zero, List.set_cons_succ]
        refine take 28 63 (v := .bool true) rfl rfl (by kernel_rfl) (by kernel_rfl) (by kernel_rfl) rfl (fun W hW => rfl) trivial ?_
        simp only [Act.put, List.setIfInBounds_toArray, List.set_cons_zero, List.set_cons_succ]
        refine done (by kernel_rfl) ?_ _
        clear b36 b39 b43 b45 b49 b54 b55 b62 hp3 c1 c2 c3 c4 c5 c6e hno
        have He := Lib.hid e
        clear e
        go_wp2
        go_roundw
        case rel => exact ⟨k + 1, by omega, by go_num, by rw [He.out], by rw [He.out], HbD.out.2⟩
        case measure => simp [intOf]; omega
      · simp only [c1, c2, c3, c4, c5, c6e] at b36 b39 b45 b49 b55 b62
        have hso : headOf d k = some (n, m) := by unfold headOf; rw [HhO.out, Hn.out, Hm.out, c1, c2, c3, c4, c5, c6e]; simp
        have e := heads_some hso
        refine plain_region_draws (fun _ => True) (by kernel_rfl) trivial (fun _ => ?_)
        refine take 0 35 (v := .int .i64 n) rfl rfl (by kernel_rfl) (by kernel_rfl) (by kernel_rfl) rfl (fun W hW => exec_move rfl rfl) trivial ?_
        simp only [Act.put, List.setIfInBounds_toArray, List.set_cons_zero, List.set_cons_succ]
        refine take 1 36 (v := .bool false) rfl rfl (by kernel_rfl) (by kernel_rfl) (by kernel_rfl) rfl (fun W hW => exec_bini rfl rfl rfl (b36 W)) trivial ?_
        simp only [Act.put, List.setIfInBounds_toArray, List.set_cons_zero, List.set_cons_succ]
        refine take 2 37 (v := .bool false) rfl rfl (by kernel_rfl) (by kernel_rfl) (by kernel_rfl) rfl (fun W hW => exec_move rfl rfl) trivial ?_
        simp only [Act.put, List.setIfInBounds_toArray, List.set_cons_zero, List.set_cons_succ]
        refine take 3 38 (v := .int .i64 n) rfl rfl (by kernel_rfl) (by kernel_rfl) (by kernel_rfl) rfl (fun W hW => exec_move rfl rfl) trivial ?_
        simp only [Act.put, List.setIfInBounds_toArray, List.set_cons_zero, List.set_cons_succ]
        refine take 4 39 (v := .bool false) rfl rfl (by kernel_rfl) (by kernel_rfl) (by kernel_rfl) rfl (fun W hW => exec_bini rfl rfl rfl (b39 W)) trivial ?_
        simp only [Act.put, List.setIfInBounds_toArray, List.set_cons_zero, List.set_cons_succ]
        refine take 5 40 (v := .bool false) rfl rfl (by kernel_rfl) (by kernel_rfl) (by kernel_rfl) rfl (fun W hW => rfl) trivial ?_
        simp only [Act.put, List.setIfInBounds_toArray, List.set_cons_zero, List.set_cons_succ]
        refine take 6 41 (v := .bool false) rfl rfl (by kernel_rfl) (by kernel_rfl) (by kernel_rfl) rfl (fun W hW => exec_move rfl rfl) trivial ?_
        simp only [Act.put, List.setIfInBounds_toArray, List.set_cons_zero, List.set_cons_succ]
        refine take 7 42 (v := .int .i64 n) rfl rfl (by kernel_rfl) (by kernel_rfl) (by kernel_rfl) rfl (fun W hW => exec_move rfl rfl) trivial ?_
        simp only [Act.put, List.setIfInBounds_toArray, List.set_cons_zero, List.set_cons_succ]
        refine take 8 43 (v := .int .i64 (n.tmod 2)) rfl rfl (by kernel_rfl) (by kernel_rfl) (by kernel_rfl) rfl (fun W hW => exec_bini rfl rfl rfl (b43 W)) trivial ?_
        simp only [Act.put, List.setIfInBounds_toArray, List.set_cons_zero, List.set_cons_succ]
        refine take 9 44 (v := .int .i64 (k : Int)) rfl rfl (by kernel_rfl) (by kernel_rfl) (by kernel_rfl) rfl (fun W hW => exec_move rfl rfl) trivial ?_
        simp only [Act.put, List.setIfInBounds_toArray, List.set_cons_zero, List.set_cons_succ]
        refine take 10 45 (v := .bool false) rfl rfl (by kernel_rfl) (by kernel_rfl) (by kernel_rfl) rfl (fun W hW => exec_bini rfl rfl rfl (b45 W)) trivial ?_
        simp only [Act.put, List.setIfInBounds_toArray, List.set_cons_zero, List.set_cons_succ]
        refine take 11 46 (v := .bool false) rfl rfl (by kernel_rfl) (by kernel_rfl) (by kernel_rfl) rfl (fun W hW => rfl) trivial ?_
        simp only [Act.put, List.setIfInBounds_toArray, List.set_cons_zero, List.set_cons_succ]
        refine take 12 47 (v := .bool false) rfl rfl (by kernel_rfl) (by kernel_rfl) (by kernel_rfl) rfl (fun W hW => exec_move rfl rfl) trivial ?_
        simp only [Act.put, List.setIfInBounds_toArray, List.set_cons_zero, List.set_cons_succ]
        refine take 13 48 (v := .int .i64 m) rfl rfl (by kernel_rfl) (by kernel_rfl) (by kernel_rfl) rfl (fun W hW => exec_move rfl rfl) trivial ?_
        simp only [Act.put, List.setIfInBounds_toArray, List.set_cons_zero, List.set_cons_succ]
        refine take 14 49 (v := .bool false) rfl rfl (by kernel_rfl) (by kernel_rfl) (by kernel_rfl) rfl (fun W hW => exec_bini rfl rfl rfl (b49 W)) trivial ?_
        simp only [Act.put, List.setIfInBounds_toArray, List.set_cons_zero, List.set_cons_succ]
        refine take 15 50 (v := .bool false) rfl rfl (by kernel_rfl) (by kernel_rfl) (by kernel_rfl) rfl (fun W hW => rfl) trivial ?_
        simp only [Act.put, List.setIfInBounds_toArray, List.set_cons_zero, List.set_cons_succ]
        refine take 16 51 (v := .bool false) rfl rfl (by kernel_rfl) (by kernel_rfl) (by kernel_rfl) rfl (fun W hW => exec_move rfl rfl) trivial ?_
        simp only [Act.put, List.setIfInBounds_toArray, List.set_cons_zero, List.set_cons_succ]
        refine take 17 52 (v := .int .i64 m) rfl rfl (by kernel_rfl) (by kernel_rfl) (by kernel_rfl) rfl (fun W hW => exec_move rfl rfl) trivial ?_
        simp only [Act.put, List.setIfInBounds_toArray, List.set_cons_zero, List.set_cons_succ]
        refine take 18 53 (v := .int .i64 (hf d : Int)) rfl rfl (by kernel_rfl) (by kernel_rfl) (by kernel_rfl) rfl (fun W hW => exec_move rfl rfl) trivial ?_
        simp only [Act.put, List.setIfInBounds_toArray, List.set_cons_zero, List.set_cons_succ]
        refine take 19 54 (v := .int .i64 ((hf d : Int) * 512)) rfl rfl (by kernel_rfl) (by kernel_rfl) (by kernel_rfl) rfl (fun W hW => exec_bini rfl rfl rfl (b54 W)) trivial ?_
        simp only [Act.put, List.setIfInBounds_toArray, List.set_cons_zero, List.set_cons_succ]
        refine take 20 55 (v := .bool false) rfl rfl (by kernel_rfl) (by kernel_rfl) (by kernel_rfl) rfl (fun W hW => exec_bini rfl rfl rfl (b55 W)) trivial ?_
        simp only [Act.put, List.setIfInBounds_toArray, List.set_cons_zero, List.set_cons_succ]
        refine take 21 56 (v := .bool false) rfl rfl (by kernel_rfl) (by kernel_rfl) (by kernel_rfl) rfl (fun W hW => rfl) trivial ?_
        simp only [Act.put, List.setIfInBounds_toArray, List.set_cons_zero, List.set_cons_succ]
        refine take 22 57 (v := .bool false) rfl rfl (by kernel_rfl) (by kernel_rfl) (by kernel_rfl) rfl (fun W hW => exec_move rfl rfl) trivial ?_
        simp only [Act.put, List.setIfInBounds_toArray, List.set_cons_zero, List.set_cons_succ]
        refine take 23 58 (v := .string (strB (blkAt d k))) rfl rfl (by kernel_rfl) (by kernel_rfl) (by kernel_rfl) rfl (fun W hW => exec_move rfl rfl) trivial ?_
        simp only [Act.put, List.setIfInBounds_toArray, List.set_cons_zero, List.set_cons_succ]
        refine take 24 59 (v := .string (strB ((blkAt d k).drop 16))) rfl rfl (by kernel_rfl) (by kernel_rfl) (by kernel_rfl) rfl (fun W hW => exec_slice rfl rfl rfl rfl rfl (hp3 W)) trivial ?_
        simp only [Act.put, List.setIfInBounds_toArray, List.set_cons_zero, List.set_cons_succ]
        refine onlyRun 25 60 (v := .slice (some ⟨wr.drew.drew.heap.size, 0, none⟩) 496 496) rfl rfl (by kernel_rfl) rfl (exec_makeSlice rfl rfl rfl Hmk.out) (.inr trivial) ?_
        simp only [Act.put, List.setIfInBounds_toArray, List.set_cons_zero, List.set_cons_succ]
        refine onlyRun 26 61 (v := .string (strB (zeros 496))) rfl rfl (by kernel_rfl) rfl (exec_convert rfl rfl Hcv.out) (.inr trivial) ?_
        simp only [Act.put, List.setIfInBounds_toArray, List.set_cons_zero, List.set_cons_succ]
        refine take 27 62 (v := .bool false) rfl rfl (by kernel_rfl) (by kernel_rfl) (by kernel_rfl) rfl (fun W hW => exec_bins rfl rfl rfl (b62 W)) trivial ?_
        simp only [Act.put, List.setIfInBounds_toArray, List.set_cons_zero, List.set_cons_succ]
        refine take 28 63 (v := .bool false) rfl rfl (by kernel_rfl) (by kernel_rfl) (by kernel_rfl) rfl (fun W hW => rfl) trivial ?_
        simp only [Act.put, List.setIfInBounds_toArray, List.set_cons_zero, List.set_cons_succ]
        refine done (by kernel_rfl) ?_ _
        clear b36 b39 b43 b45 b49 b54 b55 b62 hp3 c1 c2 c3 c4 c5 c6e hso
        have He : Hid (best (heads d (k + 1)) = better (best (heads d k)) (n, m)) := Lib.hid (by rw [e, best_snoc])
        clear e
        by_cases hgt : (best (heads d k)).1 < n
        · have c1 : decide (n > (best (heads d k)).1) = true := by simpa using hgt
          have He2 : Hid (best (heads d (k + 1)) = (n, m)) := Lib.hid (by rw [He.out]; unfold better; rw [if_pos hgt])
          clear hgt
          go_wp2
          go_roundw
          case rel => exact ⟨k + 1, by omega, by go_num, by rw [He2.out], by rw [He2.out], HbD.out.2⟩
          case measure => simp [intOf]; omega
        · have c1 : decide (n > (best (heads d k)).1) = false := by simpa using hgt
          have He2 : Hid (best (heads d (k + 1)) = best (heads d k)) := Lib.hid (by rw [He.out]; unfold better; rw [if_neg hgt])
          clear hgt
          go_wp2
          go_roundw
          case rel => exact ⟨k + 1, by omega, by go_num, by rw [He2.out], by rw [He2.out], HbD.out.2⟩
          case measure => simp [intOf]; omega
    · obtain rfl : k = 2 := by omega
      rcases best_heads d 2 with h0 | ⟨h1, h2, h3, h5⟩
      · have hlk : looked d = none := by unfold looked; rw [h0]; rfl
        have Hlk := Lib.hid hlk
        simp only [h0]
        clear h0 hlk
        go_wp2
        go_ret2
        exact ⟨Hb.out, by rw [Hlk.out]; rfl⟩
      · obtain ⟨N, hN⟩ : ∃ N : Nat, (best (heads d 2)).1 = (N : Int) := ⟨(best (heads d 2)).1.toNat, by omega⟩
        obtain ⟨M, hM⟩ : ∃ M : Nat, (best (heads d 2)).2 = (M : Int) := ⟨(best (heads d 2)).2.toNat, by omega⟩
        rw [hN] at h1 h2
        rw [hM] at h3 h5
        have hlk : looked d = some ((N : Int), (readB d (plc d N) (hf d)).take M) := by
          unfold looked; rw [hN, hM, if_neg (by omega)]; rfl
        have Hlk := Lib.hid hlk
        simp only [hN, hM]
        have hq0 : (hf d : Int) ≤ 65536 := by have := Hmost.out; unfold hf; omega
        have hp2 : plc d N + hf d ≤ d.size := by have := H4.out; unfold plc; rcases Nat.mod_two_eq_zero_or_one N with e | e <;> rw [e] <;> unfold hf <;> omega
        have hpc : strB ((l.drop (512 * plc d N)).take M) = strB ((readB d (plc d N) (hf d)).take M) := by
          rw [← Hl.out, readB_piece Hok.out _ _ (hf d) _ (by omega) hp2]
        have hp := fun lo hi (hlo : lo = ((512 * plc d N : Nat) : Int)) (hhi : hi = ((512 * plc d N + M : Nat) : Int)) => str_slice l (some lo) (some hi) (512 * plc d N) (512 * plc d N + M) (fun x h => by cases h; exact hlo) (by simp) (fun x h => by cases h; exact hhi) (by simp) (by omega) (by rw [Hlen.out]; omega)
        have eM : 512 * plc d N + M - 512 * plc d N = M := by omega
        rw [eM, hpc] at hp
        have hn0 : ((N : Int) == 0) = false := by rw [beq_eq_false_iff_ne]; omega
        clear hlk hN hM hpc eM hp2
        rcases Nat.mod_two_eq_zero_or_one N with e | e
        · have hr : (N : Int) % 2 = 0 := by omega
          have Hp := Lib.hid (hp 1024 (1024 + (M : Int)) (by unfold plc; rw [e]; omega) (by unfold plc; rw [e]; omega))
          clear hp e
          go_wp2_with (refine wpList_run rfl (exec_slice rfl rfl rfl rfl rfl (Hp.out _)) ?_)
          go_ret2
          exact ⟨Hb.out, by rw [Hlk.out]; rfl⟩
        · have hr : (N : Int) % 2 = 1 := by omega
          have Hp := Lib.hid (hp ((2 + (hf d : Int)) * 512) ((2 + (hf d : Int)) * 512 + (M : Int)) (by unfold plc; rw [e]; omega) (by unfold plc; rw [e]; omega))
          clear hp e
          go_wp2_with (refine wpList_run rfl (exec_slice rfl rfl rfl rfl rfl (Hp.out _)) ?_)
          go_ret2
          exact ⟨Hb.out, by rw [Hlk.out]; rfl⟩
end Go.Proofs.Ytfpmdagchbbkcaa
