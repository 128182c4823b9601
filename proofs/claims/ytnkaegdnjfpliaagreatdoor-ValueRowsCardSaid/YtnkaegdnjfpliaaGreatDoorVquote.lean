/- value.Quote. Printed by gen_quote.py. -/
import Derived.Test.YtnkaegdnjfpliaaGreatDoorVname
namespace Go.Proofs.YtnkaegdnjfpliaaGreatDoor
set_option linter.unusedSimpArgs false
set_option linter.unusedVariables false
open Go.RowKit

/-- What Quote tells. -/
def quoteF (s : List UInt8) : List UInt8 := if Lib.validD s then quoteB s else []
theorem esc_len (s : List UInt8) : (s.flatMap escB).length ≤ 6 * s.length := by
  induction s with
  | nil => simp
  | cons a r ih =>
    rw [List.flatMap_cons, List.length_append, List.length_cons]
    have : (escB a).length ≤ 6 := by unfold escB; repeat (first | (split; simp) | simp)
    omega
theorem quote_step {s : List UInt8} {j : Nat} (h : j < s.length) : 39 :: (s.take (j + 1)).flatMap escB = (39 :: (s.take j).flatMap escB) ++ escB s[j] := by
  rw [List.take_succ_eq_append_getElem h, List.flatMap_append]; simp
theorem quote_len (s : List UInt8) (j : Nat) : (39 :: (s.take j).flatMap escB).length ≤ 1 + 6 * s.length := by
  have h1 := esc_len (s.take j)
  have h2 : (s.take j).length ≤ s.length := List.length_take_le' _ _
  rw [List.length_cons]
  omega
/-- Bytes out of a string: the block. -/
theorem bytes_blk (s : List UInt8) (w : World) : ∃ c w1 cs fr, (convert 9 68 (.string (strB s))).run Tryz.prog w = .ok (.slice (some ⟨w.heap.size, 0, none⟩) s.length c) w1 ∧ Below w.heap.size w w1 ∧ w1.heap[w.heap.size]? = some (.cells cs 5 fr) ∧ fr ≠ (0, 0) ∧ ∀ j (h : j < s.length), cs[j]? = some (.int .u8 (s[j].toNat : Int)) := by
  have h := run_bytes_of_string (P := Tryz.prog) w 9 68 5 (strB s) Tryz.underlying9 Tryz.underlying68 Tryz.underlying5
  have hn := heap_alloc_new w.drew (.cells (bytesRow (strB s) (grownCap w (strB s).size 0 5)) 5 ((bytesRow (strB s) (grownCap w (strB s).size 0 5)).size, (bytesRow (strB s) (grownCap w (strB s).size 0 5)).size + 1))
  exact ⟨_, _, _, _, h, ((Below.refl _ _).drew).alloc (Nat.le_refl _) _, hn, by simp, fun j hj => bytesRow_at (strB s) _ j hj⟩
theorem Bld.kept {w w' : World} {B b : Nat} {l : List UInt8} (h : Bld w B b l) (g : Below w.heap.size w w') : Bld w' B b l := by
  obtain ⟨h, hB⟩ := h
  refine ⟨?_, Nat.le_trans hB g.size⟩
  rcases h with ⟨h1, v, hb, hown, hne⟩ | ⟨h1, v, hb, hown, hne⟩
  · exact .inl ⟨h1, v, belowBlk g (Array.getElem?_eq_some_iff.1 hb).1 hb, ownsRow_heap hown (fun k hk => g.block k (hown.lt k hk).2), hne⟩
  · exact .inr ⟨h1, v, belowBlk g (Array.getElem?_eq_some_iff.1 hb).1 hb, ownsRow_heap hown (fun k hk => g.block k (hown.lt k hk).2), hne⟩
theorem writeByte39 {B b : Nat} {l : List UInt8} {w : World} (h : Bld w B b l) (hlen : l.length + 1 ≤ 140737488355328) :
    Calls Tryz.prog 74 #[.pointer (some ⟨b, 0, none⟩), .int .u8 39] w fun e w' => e = .returned .nilIface ∧ Bld w' B b (l ++ [39]) ∧ Below B w w' ∧ Froz w w' := writeByte_any h 39 hlen
theorem index_quote (w : World) (c : UInt8) (n : Int) (hn : n = (c.toNat : Int)) (K : Int) (hK : Lib.indexByte [39, 92, 10, 9, 13] c = K) :
    Calls Tryz.prog 75 #[.string (strB [39, 92, 10, 9, 13]), .int .u8 n] w fun e w' => e = .returned (.int .i64 K) ∧ w' = w := by
  subst hn
  have h := Tryz.strings_IndexByte (strB [39, 92, 10, 9, 13]) (c.toNat : Int) w
  have e : (c.toNat : Int).toNat.toUInt8 = c := by rw [Int.toNat_natCast]; exact UInt8.ofNat_toNat
  rw [e, show (strB [39, 92, 10, 9, 13]).data.toList = [39, 92, 10, 9, 13] from rfl, hK] at h
  exact h
theorem exec_bin {P : Program} {w : World} {a : Act} {o : Oper} {op : BinOp} {t t' : TypeId} {x y : Operand} {vx vy v : Value} (ho : o.op = .binOp op t x y t') (hx : a.eval x = vx) (hy : a.eval y = vy) (hg : eqGuard op t x y vx vy = pure ())
    (hr : (binOp op t vx vy).run P w = .ok v w) : (execOp a.eval o).run P w = .ok (.value v) w := by
  unfold execOp; rw [ho]; simp only [hx, hy, hg, Sem.run_bind, Sem.run_pure, Result.andThen_ok, hr]
theorem lt16 {h : Nat} (hh : h < 16) : h = 0 ∨ h = 1 ∨ h = 2 ∨ h = 3 ∨ h = 4 ∨ h = 5 ∨ h = 6 ∨ h = 7 ∨ h = 8 ∨ h = 9 ∨ h = 10 ∨ h = 11 ∨ h = 12 ∨ h = 13 ∨ h = 14 ∨ h = 15 := by omega
theorem hex_slice {h : Nat} (hh : h < 16) (w : World) : (Instr.sliceAt 9 (.string (strB [48, 49, 50, 51, 52, 53, 54, 55, 56, 57, 97, 98, 99, 100, 101, 102])) (some (.int .u8 (h : Int))) (some (.int .u8 ((h : Int) + 1))) none).run Tryz.prog w = .ok (.string (strB [hexB h])) w := by
  have hz : (strB [48, 49, 50, 51, 52, 53, 54, 55, 56, 57, 97, 98, 99, 100, 101, 102]).size = 16 := rfl
  rw [run_sliceAt_string _ _ _ _ _ _ Tryz.underlying9, run_slice_string_if _ _ _ _ _ _ _ Tryz.underlying9]
  rcases lt16 hh with rfl | rfl | rfl | rfl | rfl | rfl | rfl | rfl | rfl | rfl | rfl | rfl | rfl | rfl | rfl | rfl <;> rfl
theorem hex_add {h : Nat} (hh : h < 16) (w : World) : (binOp .add 5 (.int .u8 (h : Int)) (.int .u8 1)).run Tryz.prog w = .ok (.int .u8 ((h : Int) + 1)) w := by
  rcases lt16 hh with rfl | rfl | rfl | rfl | rfl | rfl | rfl | rfl | rfl | rfl | rfl | rfl | rfl | rfl | rfl | rfl <;> rfl
theorem hex_hi (c : Nat) (w : World) : (binOp .shr 5 (.int .u8 (c : Int)) (.int .u64 4)).run Tryz.prog w = .ok (.int .u8 ((c / 16 : Nat) : Int)) w := by
  simp [go_sem]
set_option maxRecDepth 100000 in
theorem hex_lo {c : Nat} (hc : c < 256) (w : World) : (binOp .and 5 (.int .u8 (c : Int)) (.int .u8 15)).run Tryz.prog w = .ok (.int .u8 ((c % 16 : Nat) : Int)) w := by
  have h : bits .and .u8 (c : Int) 15 = ((c % 16 : Nat) : Int) := by
    have : ∀ n : Fin 256, bits .and .u8 ((n.val : Nat) : Int) 15 = ((n.val % 16 : Nat) : Int) := by decide +kernel
    exact this ⟨c, hc⟩
  rw [← h]
  simp [go_sem]
theorem add_str (a b : List UInt8) (hl : a.length + b.length ≤ 1000000) (w : World) : (binOp .add 9 (.string (strB a)) (.string (strB b))).run Tryz.prog w = .ok (.string (strB (a ++ b))) w := by
  have h1 : (strB a).size = a.length := rfl
  have h2 : (strB b).size = b.length := rfl
  have h3 : (strB a).size + (strB b).size ≤ 9223372036854775807 := by omega
  rw [← strB_append]
  simp [go_sem, h3]
/-- What lies about the loop of Quote. -/
structure QInv (w : World) (B b g : Nat) (cs : Array Value) (fr : Nat × Nat) (l : List UInt8) (W : World) : Prop where
  bld : Bld W B b l
  below : Below w.heap.size w W
  le : w.heap.size ≤ B
  blk : W.heap[g]? = some (.cells cs 5 fr)
theorem QInv.next {w : World} {B b g : Nat} {cs : Array Value} {fr : Nat × Nat} {l l' : List UInt8} {W W' : World} (h : QInv w B b g cs fr l W) (hf : fr ≠ (0, 0)) (h1 : Bld W' B b l') (h2 : Below B W W') (h3 : Froz W W') : QInv w B b g cs fr l' W' :=
  ⟨h1, h.below.trans (h2.mono h.le), h.le, h3 _ _ _ _ hf h.blk⟩
theorem QInv.drew {w : World} {B b g : Nat} {cs : Array Value} {fr : Nat × Nat} {l : List UInt8} {W : World} (h : QInv w B b g cs fr l W) : QInv w B b g cs fr l W.drew :=
  ⟨h.bld, h.below.drew, h.le, h.blk⟩
set_option maxRecDepth 100000 in
set_option maxHeartbeats 8000000 in
theorem quote_any {w : World} (hE : Env w) (s : List UInt8) (hs : s.length ≤ 1099511627776) : Calls Tryz.prog 34 #[.string (strB s)] w fun e w' => e = .returned (.string (strB (quoteF s))) ∧ Below w.heap.size w w' := by
  have hv := valid_any hE s (by omega)
  have HR := Lib.hid (show quoteF s = if Lib.validD s then quoteB s else [] from rfl)
  generalize quoteF s = R at *
  generalize Lib.validD s = vd at *
  have HV := Lib.hid hv
  clear hv hE
  cases vd with
  | false =>
    go_enter Tryz.func34, Tryz.ntmps34
    go_wp2_with (go_at_call 73; refine HV.out.mono ?_; rintro e w1 ⟨rfl, hb1⟩; have HB := Lib.hid hb1; clear hb1)
    go_ret
    exact ⟨ret_str (by rw [HR.out]; rfl), HB.out⟩
  | true =>
    have HN := Lib.hid (show R = quoteB s from HR.out)
    clear HR
    have z1 : (s.length : Int) ≤ 140737488355328 := by omega
    have hsz : (strB s).size = s.length := rfl
    go_enter Tryz.func34, Tryz.ntmps34
    go_wp2_with (first
      | (go_at_call 73; refine HV.out.mono ?_; rintro e w1 ⟨rfl, hb1⟩; have HB := Lib.hid hb1; clear hb1)
      | (go_at_call 74
         (
           refine (writeByte39 (Bld.new _) (by simp)).mono ?_
           rintro e w2 ⟨rfl, h2, hb2, _⟩
           obtain ⟨cc, w3, cs, fr, hcv, hb3, hblk, hfr, hcs⟩ := bytes_blk s w2
           have hlt2 := h2.2
           have hQ : QInv w w1.heap.size w1.heap.size w2.heap.size cs fr (39 :: (s.take 0).flatMap escB) w3 := by
             refine ⟨?_, ?_, HB.out.size, hblk⟩
             · refine ⟨?_, Nat.le_trans hlt2 hb3.size⟩
               exact (h2.kept hb3).1
             · exact below_trans HB.out (((below_new _).trans hb2).trans (hb3.mono hlt2))
           have HC := Lib.hid hcv
           have HQ := Lib.hid (And.intro hQ (And.intro hfr hcs))
           generalize w1.heap.size = B at *
           generalize w2.heap.size = g at *
           clear hcv hb3 hblk hfr hcs hQ hlt2 h2 hb2 HB HV))
      | (refine wpList_run rfl (exec_convert rfl rfl HC.out) ?_))
    go_loopw [14] (fun i W => ∃ j : Nat, j ≤ s.length ∧ i = .int .i64 (j : Int) ∧ Hid (QInv w B B g cs fr (39 :: (s.take j).flatMap escB) W)) (fun i _ => s.length - (intOf i).toNat)
    case atStart => exact ⟨0, Nat.zero_le _, rfl, Lib.hid HQ.out.1⟩
    case round =>
      obtain ⟨j, hj, rfl, HJ⟩ := hrel
      by_cases hlt : j < s.length
      · have hlt1 : j + 1 ≤ s.length := hlt
        have q0 := cellOf HJ.out.blk (HQ.out.2.2 j hlt)
        have hst := quote_step hlt
        have hln := quote_len s j
        have hc256 : s[j].toNat < 256 := s[j].toNat_lt
        generalize 39 :: (s.take j).flatMap escB = L at *
        generalize s[j] = c at *
        have HS := Lib.hid (And.intro hst (show L.length ≤ 6600000000000 by omega))
        clear hst hln
        by_cases h5 : c = 39 ∨ c = 92 ∨ c = 10 ∨ c = 9 ∨ c = 13
        · rcases h5 with rfl | rfl | rfl | rfl | rfl
          · have q0 : wr.cell? ⟨g, j, none⟩ = some (.int .u8 39) := q0
            have HI := Lib.hid (fun (W : World) => index_quote W 39 39 rfl 0 (by decide))
            go_wp2_with (first
              | (go_at_call 75; refine (HI.out _).mono ?_; rintro e w4 ⟨rfl, rfl⟩)
              | (go_at_call 76
                 (
                   refine (writeString_any HJ.out.bld [92, 39] (by have := HS.out.2; simp; omega)).mono ?_
                   rintro e w5 ⟨⟨v5, rfl⟩, h5, hb5, hz5⟩
                   have HK := Lib.hid (HJ.out.next HQ.out.2.1 h5 hb5 hz5)
                   clear h5 hb5 hz5 HJ)))
            go_roundw
            case rel => exact ⟨j + 1, hlt1, by go_num, Lib.hid (by rw [HS.out.1]; exact HK.out)⟩
            case measure => simp [intOf]; omega
          · have q0 : wr.cell? ⟨g, j, none⟩ = some (.int .u8 92) := q0
            have HI := Lib.hid (fun (W : World) => index_quote W 92 92 rfl 1 (by decide))
            go_wp2_with (first
              | (go_at_call 75; refine (HI.out _).mono ?_; rintro e w4 ⟨rfl, rfl⟩)
              | (go_at_call 76
                 (
                   refine (writeString_any HJ.out.bld [92, 92] (by have := HS.out.2; simp; omega)).mono ?_
                   rintro e w5 ⟨⟨v5, rfl⟩, h5, hb5, hz5⟩
                   have HK := Lib.hid (HJ.out.next HQ.out.2.1 h5 hb5 hz5)
                   clear h5 hb5 hz5 HJ)))
            go_roundw
            case rel => exact ⟨j + 1, hlt1, by go_num, Lib.hid (by rw [HS.out.1]; exact HK.out)⟩
            case measure => simp [intOf]; omega
          · have q0 : wr.cell? ⟨g, j, none⟩ = some (.int .u8 10) := q0
            have HI := Lib.hid (fun (W : World) => index_quote W 10 10 rfl 2 (by decide))
            go_wp2_with (first
              | (go_at_call 75; refine (HI.out _).mono ?_; rintro e w4 ⟨rfl, rfl⟩)
              | (go_at_call 76
                 (
                   refine (writeString_any HJ.out.bld [92, 110] (by have := HS.out.2; simp; omega)).mono ?_
                   rintro e w5 ⟨⟨v5, rfl⟩, h5, hb5, hz5⟩
                   have HK := Lib.hid (HJ.out.next HQ.out.2.1 h5 hb5 hz5)
                   clear h5 hb5 hz5 HJ)))
            go_roundw
            case rel => exact ⟨j + 1, hlt1, by go_num, Lib.hid (by rw [HS.out.1]; exact HK.out)⟩
            case measure => simp [intOf]; omega
          · have q0 : wr.cell? ⟨g, j, none⟩ = some (.int .u8 9) := q0
            have HI := Lib.hid (fun (W : World) => index_quote W 9 9 rfl 3 (by decide))
            go_wp2_with (first
              | (go_at_call 75; refine (HI.out _).mono ?_; rintro e w4 ⟨rfl, rfl⟩)
              | (go_at_call 76
                 (
                   refine (writeString_any HJ.out.bld [92, 116] (by have := HS.out.2; simp; omega)).mono ?_
                   rintro e w5 ⟨⟨v5, rfl⟩, h5, hb5, hz5⟩
                   have HK := Lib.hid (HJ.out.next HQ.out.2.1 h5 hb5 hz5)
                   clear h5 hb5 hz5 HJ)))
            go_roundw
            case rel => exact ⟨j + 1, hlt1, by go_num, Lib.hid (by rw [HS.out.1]; exact HK.out)⟩
            case measure => simp [intOf]; omega
          · have q0 : wr.cell? ⟨g, j, none⟩ = some (.int .u8 13) := q0
            have HI := Lib.hid (fun (W : World) => index_quote W 13 13 rfl 4 (by decide))
            go_wp2_with (first
              | (go_at_call 75; refine (HI.out _).mono ?_; rintro e w4 ⟨rfl, rfl⟩)
              | (go_at_call 76
                 (
                   refine (writeString_any HJ.out.bld [92, 114] (by have := HS.out.2; simp; omega)).mono ?_
                   rintro e w5 ⟨⟨v5, rfl⟩, h5, hb5, hz5⟩
                   have HK := Lib.hid (HJ.out.next HQ.out.2.1 h5 hb5 hz5)
                   clear h5 hb5 hz5 HJ)))
            go_roundw
            case rel => exact ⟨j + 1, hlt1, by go_num, Lib.hid (by rw [HS.out.1]; exact HK.out)⟩
            case measure => simp [intOf]; omega
        · have hidx : Lib.indexByte [39, 92, 10, 9, 13] c = -1 := by
            have e1 : (39 == c) = false := by rw [beq_eq_false_iff_ne]; intro e; exact h5 (.inl e.symm)
            have e2 : (92 == c) = false := by rw [beq_eq_false_iff_ne]; intro e; exact h5 (.inr (.inl e.symm))
            have e3 : (10 == c) = false := by rw [beq_eq_false_iff_ne]; intro e; exact h5 (.inr (.inr (.inl e.symm)))
            have e4 : (9 == c) = false := by rw [beq_eq_false_iff_ne]; intro e; exact h5 (.inr (.inr (.inr (.inl e.symm))))
            have e5 : (13 == c) = false := by rw [beq_eq_false_iff_ne]; intro e; exact h5 (.inr (.inr (.inr (.inr e.symm))))
            simp [Lib.indexByte, e1, e2, e3, e4, e5]
          have hesc : escB c = if c.toNat < 32 ∨ c.toNat = 127 then [92, 117, 48, 48, hexB (c.toNat / 16), hexB (c.toNat % 16)] else [c] := by
            unfold escB
            rw [if_neg (fun e => h5 (.inl e)), if_neg (fun e => h5 (.inr (.inl e))), if_neg (fun e => h5 (.inr (.inr (.inl e)))), if_neg (fun e => h5 (.inr (.inr (.inr (.inl e))))), if_neg (fun e => h5 (.inr (.inr (.inr (.inr e)))))]
          have HI := Lib.hid (fun (W : World) => index_quote W c _ rfl (-1) hidx)
          clear h5 hidx
          by_cases hd : c.toNat < 32 ∨ c.toNat = 127
          · rw [if_pos hd] at hesc
            have HE := Lib.hid hesc
            obtain ⟨n, hn⟩ : ∃ n, c.toNat = n := ⟨_, rfl⟩
            rw [hn] at q0 hc256 HI hd HE
            clear hesc hn
            by_cases hd1 : n < 32
            · have d1 : decide ((n : Int) < 32) = true := by rw [decide_eq_true_iff]; omega
              clear hd hd1
              go_wp2_with (go_at_call 75; refine (HI.out _).mono ?_; rintro e w4 ⟨rfl, rfl⟩)
              have f1 := hex_hi n
              have f2 := hex_slice (h := n / 16) (by omega)
              have f3 := hex_add (h := n / 16) (by omega)
              have f4 := hex_lo (c := n) hc256
              have f5 := hex_slice (h := n % 16) (by omega)
              have f6 := hex_add (h := n % 16) (by omega)
              have hf := HQ.out.2.1
              have hU := HJ.out.drew
              refine plain_region_draws (fun W => QInv w B B g cs fr L W) (by kernel_rfl) hU (fun hU0 => ?_)
              refine take 0 38 (v := .int .u8 (n : Int)) rfl rfl (by kernel_rfl) (by kernel_rfl) (by kernel_rfl) rfl (fun W hW => exec_move rfl rfl) (by assumption) ?_
              simp only [Act.put, List.setIfInBounds_toArray, List.set_cons_zero, List.set_cons_succ]
              refine take 1 39 (v := .int .u8 ((n / 16 : Nat) : Int)) rfl rfl (by kernel_rfl) (by kernel_rfl) (by kernel_rfl) rfl (fun W hW => exec_bin rfl rfl rfl rfl (f1 W)) (by assumption) ?_
              simp only [Act.put, List.setIfInBounds_toArray, List.set_cons_zero, List.set_cons_succ]
              refine take 2 40 (v := .int .u8 (n : Int)) rfl rfl (by kernel_rfl) (by kernel_rfl) (by kernel_rfl) rfl (fun W hW => exec_move rfl rfl) (by assumption) ?_
              simp only [Act.put, List.setIfInBounds_toArray, List.set_cons_zero, List.set_cons_succ]
              refine take 3 41 (v := .int .u8 ((n / 16 : Nat) : Int)) rfl rfl (by kernel_rfl) (by kernel_rfl) (by kernel_rfl) rfl (fun W hW => exec_bin rfl rfl rfl rfl (f1 W)) (by assumption) ?_
              simp only [Act.put, List.setIfInBounds_toArray, List.set_cons_zero, List.set_cons_succ]
              refine take 4 42 (v := .int .u8 (((n / 16 : Nat) : Int) + 1)) rfl rfl (by kernel_rfl) (by kernel_rfl) (by kernel_rfl) rfl (fun W hW => exec_bin rfl rfl rfl rfl (f3 W)) (by assumption) ?_
              simp only [Act.put, List.setIfInBounds_toArray, List.set_cons_zero, List.set_cons_succ]
              refine take 5 43 (v := .string (strB [hexB (n / 16)])) rfl rfl (by kernel_rfl) (by kernel_rfl) (by kernel_rfl) rfl (fun W hW => exec_slice rfl rfl rfl rfl rfl (f2 W)) (by assumption) ?_
              simp only [Act.put, List.setIfInBounds_toArray, List.set_cons_zero, List.set_cons_succ]
              refine take 6 44 (v := .string (strB ([92, 117, 48, 48] ++ [hexB (n / 16)]))) rfl rfl (by kernel_rfl) (by kernel_rfl) (by kernel_rfl) rfl (fun W hW => exec_bin rfl rfl rfl rfl (add_str _ _ (by simp) W)) (by assumption) ?_
              simp only [Act.put, List.setIfInBounds_toArray, List.set_cons_zero, List.set_cons_succ]
              refine take 7 45 (v := .int .u8 (n : Int)) rfl rfl (by kernel_rfl) (by kernel_rfl) (by kernel_rfl) rfl (fun W hW => exec_move rfl rfl) (by assumption) ?_
              simp only [Act.put, List.setIfInBounds_toArray, List.set_cons_zero, List.set_cons_succ]
              refine take 8 46 (v := .int .u8 ((n % 16 : Nat) : Int)) rfl rfl (by kernel_rfl) (by kernel_rfl) (by kernel_rfl) rfl (fun W hW => exec_bin rfl rfl rfl rfl (f4 W)) (by assumption) ?_
              simp only [Act.put, List.setIfInBounds_toArray, List.set_cons_zero, List.set_cons_succ]
              refine take 9 47 (v := .int .u8 (n : Int)) rfl rfl (by kernel_rfl) (by kernel_rfl) (by kernel_rfl) rfl (fun W hW => exec_move rfl rfl) (by assumption) ?_
              simp only [Act.put, List.setIfInBounds_toArray, List.set_cons_zero, List.set_cons_succ]
              refine take 10 48 (v := .int .u8 ((n % 16 : Nat) : Int)) rfl rfl (by kernel_rfl) (by kernel_rfl) (by kernel_rfl) rfl (fun W hW => exec_bin rfl rfl rfl rfl (f4 W)) (by assumption) ?_
              simp only [Act.put, List.setIfInBounds_toArray, List.set_cons_zero, List.set_cons_succ]
              refine take 11 49 (v := .int .u8 (((n % 16 : Nat) : Int) + 1)) rfl rfl (by kernel_rfl) (by kernel_rfl) (by kernel_rfl) rfl (fun W hW => exec_bin rfl rfl rfl rfl (f6 W)) (by assumption) ?_
              simp only [Act.put, List.setIfInBounds_toArray, List.set_cons_zero, List.set_cons_succ]
              refine take 12 50 (v := .string (strB [hexB (n % 16)])) rfl rfl (by kernel_rfl) (by kernel_rfl) (by kernel_rfl) rfl (fun W hW => exec_slice rfl rfl rfl rfl rfl (f5 W)) (by assumption) ?_
              simp only [Act.put, List.setIfInBounds_toArray, List.set_cons_zero, List.set_cons_succ]
              refine take 13 51 (v := .string (strB ([92, 117, 48, 48] ++ [hexB (n / 16)] ++ [hexB (n % 16)]))) rfl rfl (by kernel_rfl) (by kernel_rfl) (by kernel_rfl) rfl (fun W hW => exec_bin rfl rfl rfl rfl (add_str _ _ (by simp) W)) (by assumption) ?_
              simp only [Act.put, List.setIfInBounds_toArray, List.set_cons_zero, List.set_cons_succ]
              refine onlyCall 14 52 rfl rfl (by kernel_rfl) rfl (exec_call [.pointer (some ⟨B, 0, none⟩), .string (strB ([92, 117, 48, 48] ++ [hexB (n / 16)] ++ [hexB (n % 16)]))] rfl rfl Tryz.func76 (by kernel_rfl) (by kernel_rfl)) ?_
              refine (writeString_any hU0.bld ([92, 117, 48, 48] ++ [hexB (n / 16)] ++ [hexB (n % 16)]) (by have := HS.out.2; simp; omega)).mono ?_
              rintro e w5 ⟨⟨v5, rfl⟩, h5, hb5, hz5⟩
              have hK := hU0.next hf h5 hb5 hz5
              clear h5 hb5 hz5
              refine ⟨_, rfl, .inl (by kernel_rfl), ?_⟩
              simp only [Act.put, List.setIfInBounds_toArray, List.set_cons_zero, List.set_cons_succ]
              refine done (by kernel_rfl) ?_ _
              have HK := Lib.hid hK
              clear hK hU hU0 hf f1 f2 f3 f4 f5 f6 HJ
              go_wp2
              go_roundw
              case rel => exact ⟨j + 1, hlt1, by go_num, Lib.hid (by rw [HS.out.1, HE.out]; exact HK.out)⟩
              case measure => simp [intOf]; omega
            · have d1 : decide ((n : Int) < 32) = false := by rw [decide_eq_false_iff_not]; omega
              have d2 : ((n : Int) == 127) = true := by rw [beq_iff_eq]; omega
              clear hd hd1
              go_wp2_with (go_at_call 75; refine (HI.out _).mono ?_; rintro e w4 ⟨rfl, rfl⟩)
              have f1 := hex_hi n
              have f2 := hex_slice (h := n / 16) (by omega)
              have f3 := hex_add (h := n / 16) (by omega)
              have f4 := hex_lo (c := n) hc256
              have f5 := hex_slice (h := n % 16) (by omega)
              have f6 := hex_add (h := n % 16) (by omega)
              have hf := HQ.out.2.1
              have hU := HJ.out.drew
              refine plain_region_draws (fun W => QInv w B B g cs fr L W) (by kernel_rfl) hU (fun hU0 => ?_)
              refine take 0 38 (v := .int .u8 (n : Int)) rfl rfl (by kernel_rfl) (by kernel_rfl) (by kernel_rfl) rfl (fun W hW => exec_move rfl rfl) (by assumption) ?_
              simp only [Act.put, List.setIfInBounds_toArray, List.set_cons_zero, List.set_cons_succ]
              refine take 1 39 (v := .int .u8 ((n / 16 : Nat) : Int)) rfl rfl (by kernel_rfl) (by kernel_rfl) (by kernel_rfl) rfl (fun W hW => exec_bin rfl rfl rfl rfl (f1 W)) (by assumption) ?_
              simp only [Act.put, List.setIfInBounds_toArray, List.set_cons_zero, List.set_cons_succ]
              refine take 2 40 (v := .int .u8 (n : Int)) rfl rfl (by kernel_rfl) (by kernel_rfl) (by kernel_rfl) rfl (fun W hW => exec_move rfl rfl) (by assumption) ?_
              simp only [Act.put, List.setIfInBounds_toArray, List.set_cons_zero, List.set_cons_succ]
              refine take 3 41 (v := .int .u8 ((n / 16 : Nat) : Int)) rfl rfl (by kernel_rfl) (by kernel_rfl) (by kernel_rfl) rfl (fun W hW => exec_bin rfl rfl rfl rfl (f1 W)) (by assumption) ?_
              simp only [Act.put, List.setIfInBounds_toArray, List.set_cons_zero, List.set_cons_succ]
              refine take 4 42 (v := .int .u8 (((n / 16 : Nat) : Int) + 1)) rfl rfl (by kernel_rfl) (by kernel_rfl) (by kernel_rfl) rfl (fun W hW => exec_bin rfl rfl rfl rfl (f3 W)) (by assumption) ?_
              simp only [Act.put, List.setIfInBounds_toArray, List.set_cons_zero, List.set_cons_succ]
              refine take 5 43 (v := .string (strB [hexB (n / 16)])) rfl rfl (by kernel_rfl) (by kernel_rfl) (by kernel_rfl) rfl (fun W hW => exec_slice rfl rfl rfl rfl rfl (f2 W)) (by assumption) ?_
              simp only [Act.put, List.setIfInBounds_toArray, List.set_cons_zero, List.set_cons_succ]
              refine take 6 44 (v := .string (strB ([92, 117, 48, 48] ++ [hexB (n / 16)]))) rfl rfl (by kernel_rfl) (by kernel_rfl) (by kernel_rfl) rfl (fun W hW => exec_bin rfl rfl rfl rfl (add_str _ _ (by simp) W)) (by assumption) ?_
              simp only [Act.put, List.setIfInBounds_toArray, List.set_cons_zero, List.set_cons_succ]
              refine take 7 45 (v := .int .u8 (n : Int)) rfl rfl (by kernel_rfl) (by kernel_rfl) (by kernel_rfl) rfl (fun W hW => exec_move rfl rfl) (by assumption) ?_
              simp only [Act.put, List.setIfInBounds_toArray, List.set_cons_zero, List.set_cons_succ]
              refine take 8 46 (v := .int .u8 ((n % 16 : Nat) : Int)) rfl rfl (by kernel_rfl) (by kernel_rfl) (by kernel_rfl) rfl (fun W hW => exec_bin rfl rfl rfl rfl (f4 W)) (by assumption) ?_
              simp only [Act.put, List.setIfInBounds_toArray, List.set_cons_zero, List.set_cons_succ]
              refine take 9 47 (v := .int .u8 (n : Int)) rfl rfl (by kernel_rfl) (by kernel_rfl) (by kernel_rfl) rfl (fun W hW => exec_move rfl rfl) (by assumption) ?_
              simp only [Act.put, List.setIfInBounds_toArray, List.set_cons_zero, List.set_cons_succ]
              refine take 10 48 (v := .int .u8 ((n % 16 : Nat) : Int)) rfl rfl (by kernel_rfl) (by kernel_rfl) (by kernel_rfl) rfl (fun W hW => exec_bin rfl rfl rfl rfl (f4 W)) (by assumption) ?_
              simp only [Act.put, List.setIfInBounds_toArray, List.set_cons_zero, List.set_cons_succ]
              refine take 11 49 (v := .int .u8 (((n % 16 : Nat) : Int) + 1)) rfl rfl (by kernel_rfl) (by kernel_rfl) (by kernel_rfl) rfl (fun W hW => exec_bin rfl rfl rfl rfl (f6 W)) (by assumption) ?_
              simp only [Act.put, List.setIfInBounds_toArray, List.set_cons_zero, List.set_cons_succ]
              refine take 12 50 (v := .string (strB [hexB (n % 16)])) rfl rfl (by kernel_rfl) (by kernel_rfl) (by kernel_rfl) rfl (fun W hW => exec_slice rfl rfl rfl rfl rfl (f5 W)) (by assumption) ?_
              simp only [Act.put, List.setIfInBounds_toArray, List.set_cons_zero, List.set_cons_succ]
              refine take 13 51 (v := .string (strB ([92, 117, 48, 48] ++ [hexB (n / 16)] ++ [hexB (n % 16)]))) rfl rfl (by kernel_rfl) (by kernel_rfl) (by kernel_rfl) rfl (fun W hW => exec_bin rfl rfl rfl rfl (add_str _ _ (by simp) W)) (by assumption) ?_
              simp only [Act.put, List.setIfInBounds_toArray, List.set_cons_zero, List.set_cons_succ]
              refine onlyCall 14 52 rfl rfl (by kernel_rfl) rfl (exec_call [.pointer (some ⟨B, 0, none⟩), .string (strB ([92, 117, 48, 48] ++ [hexB (n / 16)] ++ [hexB (n % 16)]))] rfl rfl Tryz.func76 (by kernel_rfl) (by kernel_rfl)) ?_
              refine (writeString_any hU0.bld ([92, 117, 48, 48] ++ [hexB (n / 16)] ++ [hexB (n % 16)]) (by have := HS.out.2; simp; omega)).mono ?_
              rintro e w5 ⟨⟨v5, rfl⟩, h5, hb5, hz5⟩
              have hK := hU0.next hf h5 hb5 hz5
              clear h5 hb5 hz5
              refine ⟨_, rfl, .inl (by kernel_rfl), ?_⟩
              simp only [Act.put, List.setIfInBounds_toArray, List.set_cons_zero, List.set_cons_succ]
              refine done (by kernel_rfl) ?_ _
              have HK := Lib.hid hK
              clear hK hU hU0 hf f1 f2 f3 f4 f5 f6 HJ
              go_wp2
              go_roundw
              case rel => exact ⟨j + 1, hlt1, by go_num, Lib.hid (by rw [HS.out.1, HE.out]; exact HK.out)⟩
              case measure => simp [intOf]; omega
          · rw [if_neg hd] at hesc
            have HE := Lib.hid hesc
            have d1 : decide ((c.toNat : Int) < 32) = false := by rw [decide_eq_false_iff_not]; omega
            have d2 : ((c.toNat : Int) == 127) = false := by rw [beq_eq_false_iff_ne]; omega
            clear hd hesc
            go_wp2_with (first
              | (go_at_call 75; refine (HI.out _).mono ?_; rintro e w4 ⟨rfl, rfl⟩)
              | (go_at_call 74
                 (
                   refine (writeByte_any HJ.out.bld c (by have := HS.out.2; omega)).mono ?_
                   rintro e w5 ⟨rfl, h5, hb5, hz5⟩
                   have HK := Lib.hid (HJ.out.next HQ.out.2.1 h5 hb5 hz5)
                   clear h5 hb5 hz5 HJ)))
            go_roundw
            case rel => exact ⟨j + 1, hlt1, by go_num, Lib.hid (by rw [HS.out.1, HE.out]; exact HK.out)⟩
            case measure => simp [intOf]; omega
      · obtain rfl : j = s.length := by omega
        have hln := quote_len s s.length
        have hfin : R = (39 :: (s.take s.length).flatMap escB) ++ [39] := by rw [HN.out, List.take_length]; rfl
        generalize 39 :: (s.take s.length).flatMap escB = L at *
        have HS := Lib.hid (And.intro hfin (show L.length ≤ 6600000000000 by omega))
        clear hfin hln HN
        go_wp2_with (first
          | (go_at_call 74
             (
               refine (writeByte39 HJ.out.bld (by have := HS.out.2; omega)).mono ?_
               rintro e w5 ⟨rfl, h5, hb5, hz5⟩
               have HK := Lib.hid (HJ.out.next HQ.out.2.1 h5 hb5 hz5)
               clear h5 hb5 hz5 HJ))
          | (go_at_call 77
             (
               refine (string_of HK.out.bld).mono ?_
               rintro e w6 ⟨rfl, hb6⟩
               have HF := Lib.hid (HK.out.below.trans (hb6.mono HK.out.le))
               clear hb6)))
        go_ret
        exact ⟨ret_str (by rw [HS.out.1]), HF.out⟩
end Go.Proofs.YtnkaegdnjfpliaaGreatDoor
