/- Copies of values. -/
import Derived.Test.YtnkaegdnjfpliaaGreatDoorVeq
import Derived.Test.YtnkaegdnjfpliaaGreatDoorVown
import Derived.OwnWalk
namespace Go.Proofs.YtnkaegdnjfpliaaGreatDoor
set_option linter.unusedSimpArgs false
set_option linter.unusedVariables false
open Go.RowKit

theorem info_val : ∃ i, Tryz.prog.info? 26 = some i ∧ i.zero = some (.agg #[.int .i64 0, .bool false, .int .i64 0, .string ⟨#[]⟩, .slice none 0 0, .slice none 0 0]) ∧ i.size = 6 ∧ i.bytes = 88 := info_parts (by kernel_rfl)
theorem VOwn.open {w : World} {P : Nat → Prop} {v : V} {x : Array Value} (h : VOwn w P v x) : ∃ vk vl, x = #[.int .i64 v.kind, .bool v.b, .int .i64 v.n, .string (strB v.text), vk, vl] ∧ OwnsP w P 9 1 vk v.keys.length (v.keys.map strV) ∧ LOwn w P vl v.list := by
  cases v; exact VOwn_iff.1 h
theorem VOwn.mk' {w : World} {P : Nat → Prop} {v : V} {vk vl : Value} (hk : OwnsP w P 9 1 vk v.keys.length (v.keys.map strV)) (hl : LOwn w P vl v.list) : VOwn w P v #[.int .i64 v.kind, .bool v.b, .int .i64 v.n, .string (strB v.text), vk, vl] := by
  cases v; exact VOwn_iff.2 ⟨_, _, rfl, hk, hl⟩
theorem OwnsP.one {w : World} {P : Nat → Prop} {n : Nat} {vk : Value} {xs : List Value} (h : OwnsP w P 9 1 vk n xs) : vk.oneCell' = true := by
  rcases h.1.2 with ⟨rfl, _⟩ | ⟨g, cap, cur, rfl, _⟩ <;> rfl
theorem VOwn.ones {w : World} {P : Nat → Prop} {v : V} {x : Array Value} (h : VOwn w P v x) : ∀ u ∈ x.toList, u.oneCell' = true := by
  obtain ⟨vk, vl, rfl, hk, xs, hl, _⟩ := h.open
  have h1 := hk.one
  have h2 : vl.oneCell' = true := by rcases hl.1.2 with ⟨rfl, _⟩ | ⟨g, cap, cur, rfl, _⟩ <;> rfl
  intro u hu
  simp only [List.mem_cons, List.not_mem_nil, or_false] at hu
  rcases hu with rfl | rfl | rfl | rfl | rfl | rfl <;> first | rfl | assumption
theorem flat_len {xs : List (Array Value)} (h6 : ∀ x ∈ xs, x.size = 6) : (xs.flatMap Array.toList).length = xs.length * 6 := by
  induction xs with
  | nil => rfl
  | cons a r ih =>
    rw [List.flatMap_cons, List.length_append, ih fun x hx => h6 x (by simp [hx])]
    have := h6 a (by simp)
    simp [this]; omega
/-- A value behind values. -/
theorem append_val {w : World} {vl : Value} {n : Nat} {ys : List Value} (hown : w.ownsRow 0 26 6 vl n ys) {g : Nat} {x : Array Value} (h6 : x.size = 6) (h1 : ∀ u ∈ x.toList, u.oneCell' = true)
    (hc : w.heap[g]? = some (.cells x 26 (0, 0))) (hn : n ≤ 1000000) (ty : TypeId) :
    ∃ v' w', (Builtin.append_ #[24, 24] ty #[vl, .slice (some ⟨g, 0, none⟩) 1 1]).run Tryz.prog w = .ok v' w' ∧ w'.ownsRow 0 26 6 v' (n + 1) (ys ++ x.toList) ∧ Touch (fun b => vl.ownBlock = some b) w w' ∧
      (v'.ownBlock = vl.ownBlock ∨ v'.ownBlock = some w.heap.size) ∧ w.heap.size ≤ w'.heap.size := by
  obtain ⟨i, i1, i2, i3, i4⟩ := info_val
  exact append_law (P := Tryz.prog) (w := w) 24 ty 26 i _ 6 88 Tryz.underlying24 i1 i2 i3 i4 rfl vl n ys hown ⟨g, 0, none⟩ 1 1 x.toList (by simp [h6]) (fun j u hu => by
    rw [addr_add, Nat.zero_add]; exact cellOf hc (by simpa using hu)) h1 (by unfold maxLen; omega) (by omega)
/-- Values that were copied so far. -/
def CInv (w W : World) (ov : Value) (m : List V) : Prop := ∃ xs, OwnsP W (fun b => w.heap.size ≤ b) 26 6 ov m.length (xs.flatMap Array.toList) ∧ VOwns W (fun b => w.heap.size ≤ b ∧ ov.ownBlock ≠ some b) m xs ∧ Below w.heap.size w W
theorem CInv.below {w W W' : World} {ov : Value} {m : List V} (h : CInv w W ov m) (g : Below W.heap.size W W') : CInv w W' ov m := by
  obtain ⟨xs, h1, h2, h3⟩ := h
  exact ⟨xs, h1.keep fun b _ hb => g.block b hb, h2.below g, below_trans h3 g⟩
theorem CInv.start {w W : World} (h : Below w.heap.size w W) : CInv w W (.slice none 0 0) [] := ⟨[], ⟨⟨rfl, .inl ⟨rfl, rfl⟩⟩, fun g hg => by simp [Value.ownBlock] at hg⟩, rfl, h⟩
theorem CInv.own {w W : World} {ov : Value} {m : List V} (h : CInv w W ov m) : LOwn W (fun b => w.heap.size ≤ b) ov m := by
  obtain ⟨xs, h1, h2, h3⟩ := h
  exact ⟨xs, h1, h2.imp fun b _ hb => hb.1⟩
/-- One more value, copied and appended. -/
theorem CInv.step {w W W1 : World} {ov : Value} {m : List V} {v : V} {x : Array Value} {base : Nat} (h : CInv w W ov m) (hbase : W.heap.size ≤ base) (hb : Below W.heap.size W W1) (hx : VOwn W1 (fun b => base ≤ b) v x) (hm : m.length ≤ 1000000) (ty : TypeId) :
    ∃ v' W2, (Builtin.append_ #[24, 24] ty #[ov, .slice (some ⟨W1.heap.size, 0, none⟩) 1 1]).run Tryz.prog (W1.alloc (.cells x 26)) = .ok v' W2 ∧ CInv w W2 v' (m ++ [v]) := by
  have hnew : Below W1.heap.size W1 (W1.alloc (.cells x 26)) := below_new _
  have hlt : ∀ g, ov.ownBlock = some g → g < W.heap.size := by
    obtain ⟨xs, h1, _⟩ := h
    exact fun g hg => (h1.1.lt g hg).2
  obtain ⟨xs, h1, h2, h3⟩ := (h.below hb).below hnew
  have hx' := hx.below hnew
  have hwW : w.heap.size ≤ W.heap.size := by obtain ⟨_, _, _, h⟩ := h; exact h.size
  obtain ⟨v', W2, a1, a2, a3, a4, a5⟩ := append_val h1.1 hx.size6 hx.ones (heap_alloc_new W1 _) hm ty
  refine ⟨v', W2, a1, xs ++ [x], ⟨?_, fun g hg => ?_⟩, ?_, ?_⟩
  · rw [List.flatMap_append, List.length_append]
    simpa using a2
  · rcases a4 with e | e
    · exact h1.2 g (e.symm.trans hg)
    · rw [e] at hg
      cases hg
      have := h3.size
      omega
  · have hs : VOwns (W1.alloc (.cells x 26)) (fun b => w.heap.size ≤ b ∧ ov.ownBlock ≠ some b ∧ b < (W1.alloc (.cells x 26)).heap.size) (m ++ [v]) (xs ++ [x]) :=
      VOwns_snoc (h2.imp fun b hb hp => ⟨hp.1, hp.2, hb⟩) (hx'.imp fun b hb hp => ⟨by omega, fun e => by have := hlt b e; omega, hb⟩)
    refine (hs.keep (w' := W2) fun b hp hb => a3.block b hb hp.2.1).imp fun b _ hp => ⟨hp.1, ?_⟩
    rcases a4 with e | e
    · rw [e]; exact hp.2.1
    · rw [e]; intro e2; cases e2; have := hp.2.2; omega
  · exact a3.below h3 (fun b hb e => by have := h1.2 b e; omega) h3.size
/-- Keys copied. -/
theorem clone_any {w : World} {p : Option Addr} {c : Nat} {ks : List (List UInt8)} (h : RdS w p c ks) (hn : ks.length ≤ 1000000) :
    Calls Tryz.prog 88 #[.slice p ks.length c] w fun e w' => ∃ vk, e = .returned vk ∧ OwnsP w' (fun b => w.heap.size ≤ b) 9 1 vk ks.length (ks.map strV) ∧ Below w.heap.size w w' := by
  cases ks with
  | nil =>
    cases p with
    | none =>
      refine (Tryz.slices_Clone_string_nil 0 c w).mono ?_
      rintro e w' ⟨rfl, rfl⟩
      exact ⟨_, rfl, ⟨⟨rfl, .inl ⟨rfl, rfl⟩⟩, fun g hg => by simp [Value.ownBlock] at hg⟩, Below.refl _ _⟩
    | some ad =>
      refine (Tryz.slices_Clone_string_zero ad c w).mono ?_
      rintro e w' ⟨v', rfl, h1, _, h2⟩
      exact ⟨_, rfl, .of_base h1, h2⟩
  | cons a r =>
    obtain ⟨b, o, rfl, _⟩ := h.get (i := 0) (by simp)
    have hc : ∀ j, j < ((a :: r).map strB).length → w.cell? ⟨b, o + j, none⟩ = some (.string (((a :: r).map strB).getD j ByteArray.empty)) := by
      intro j hj
      have hj' : j < (a :: r).length := by simpa using hj
      rw [(h.2.2.2.2 _ rfl).2 j (a :: r)[j] (List.getElem?_eq_getElem hj')]
      have e : ((a :: r).map strB).getD j ByteArray.empty = strB (a :: r)[j] := by simp only [List.getD, List.getElem?_map, List.getElem?_eq_getElem hj', Option.map_some, Option.getD_some]
      rw [e]
    refine (Tryz.slices_Clone_string b o (a :: r).length c ((a :: r).map strB) w (by simp) (by omega) hc).mono ?_
    rintro e w' ⟨v', rfl, h1, _, h2⟩
    rw [List.take_of_length_le (by simp), List.map_map] at h1
    exact ⟨_, rfl, .of_base h1, h2⟩

/-- What a copy of a value is. -/
def CopyOk (w : World) (v : V) (e : Ending) (w' : World) : Prop := ∃ x, e = .returned (.agg x) ∧ VOwn w' (fun b => w.heap.size ≤ b) v x ∧ Below w.heap.size w w'
set_option maxRecDepth 100000 in
set_option maxHeartbeats 4000000 in
theorem copies_any {w : World} {p : Option Addr} {c : Nat} {l : List V} (hl : LRd w p c l) (hn : l.length ≤ 1000000)
    (hc : ∀ v ∈ l, ∀ (W : World) (x : Array Value), VRd W v x → Calls Tryz.prog 51 #[.agg x] W (CopyOk W v)) :
    Calls Tryz.prog 83 #[.slice p l.length c] w fun e w' => ∃ vl, e = .returned vl ∧ LOwn w' (fun b => w.heap.size ≤ b) vl l ∧ Below w.heap.size w w' := by
  have HL := Lib.hid hl
  have HC := Lib.hid hc
  have z1 : (l.length : Int) ≤ 140737488355328 := by omega
  clear hl hc
  go_enter Tryz.func83, Tryz.ntmps83
  go_wp2
  go_loopw [3, 8] (fun o i wr => ∃ j : Nat, j ≤ l.length ∧ i = .int .i64 (j : Int) ∧ Hid (CInv w wr o (l.take j))) (fun _ i _ => l.length - (intOf i).toNat)
  case atStart => exact ⟨0, Nat.zero_le _, rfl, Lib.hid (CInv.start (Below.refl _ _))⟩
  case round =>
    obtain ⟨j, hj, rfl, HJ⟩ := hrel
    by_cases hlt : j < l.length
    · have hlt1 : j + 1 ≤ l.length := hlt
      have htk : l.take (j + 1) = l.take j ++ [l[j]] := List.take_succ_eq_append_getElem hlt
      have hbw : Below w.heap.size w wr := by obtain ⟨_, _, _, h⟩ := HJ.out; exact h
      obtain ⟨g1, o1, pk1, ck1, pl1, cl1, rfl, ⟨a0, a1, a2, a3, a4, a5⟩, hv1⟩ := (HL.out.below hbw).at hlt
      have hcall := HC.out l[j] (List.getElem_mem hlt)
      generalize l[j] = s1 at *
      have HD := Lib.hid (And.intro htk (And.intro hcall hv1))
      have HN := Lib.hid hn
      clear htk hcall hv1 hbw hn
      go_wp2_with (first
        | (go_at_call 51
           refine (HD.out.2.1 _ _ (HD.out.2.2.below (below_new _))).mono ?_
           rintro e w1 ⟨x, rfl, hx, hb⟩
           obtain ⟨v', W2, ha, hI⟩ := HJ.out.step (Nat.le_succ _) (below_trans (below_new _) hb) (hx.imp fun b _ hp => by simpa using hp) (by rw [List.length_take]; have := HN.out; omega) 24
           rw [← HD.out.1] at hI
           obtain ⟨vk, vl, rfl, _⟩ := hx.open
           have Ha := Lib.hid ha
           have HI := Lib.hid hI
           clear ha hI hx hb HJ HD)
        | (refine wpList_append rfl rfl rfl rfl Ha.out ?_))
      go_roundw
      case rel => exact ⟨j + 1, hlt1, by go_num, HI⟩
      case measure => simp [intOf]; omega
    · obtain rfl : j = l.length := by omega
      go_wp2
      go_ret
      have h := HJ.out
      rw [List.take_length] at h
      have hb : Below w.heap.size w wr := by obtain ⟨_, _, _, h⟩ := h; exact h
      exact ⟨_, rfl, h.own, hb⟩

theorem box_set {W : World} {g k : Nat} {cs : Array Value} {t : TypeId} (u : Value) (h : W.heap[g]? = some (.cells cs t (0, 0))) : (W.setCell ⟨g, k, none⟩ u).heap[g]? = some (.cells (cs.setIfInBounds k u) t (0, 0)) := heap_setCell_same W g k cs t u h
theorem slices_of {w : World} {P : Nat → Prop} {e : TypeId} {size n : Nat} {v : Value} {xs : List Value} (h : OwnsP w P e size v n xs) : ∃ p c, v = .slice p n c := by
  rcases h.1.2 with ⟨rfl, rfl⟩ | ⟨g, cap, cur, rfl, _⟩
  · exact ⟨none, 0, rfl⟩
  · exact ⟨some ⟨g, 0, none⟩, cap, rfl⟩
theorem put_keys {w : World} {ad : Addr} {p : Option Addr} {n c : Nat} {u : Value} (hc : w.cell? ad = some u) (hf : w.frozen? ad = false) : (storeVar 23 ad (.slice p n c)).run Tryz.prog w = .ok () (w.setCell ad (.slice p n c)) := by
  simp [go_sem, hc, hf, stored]
theorem put_vals {w : World} {ad : Addr} {p : Option Addr} {n c : Nat} {u : Value} (hc : w.cell? ad = some u) (hf : w.frozen? ad = false) : (storeVar 24 ad (.slice p n c)).run Tryz.prog w = .ok () (w.setCell ad (.slice p n c)) := by
  simp [go_sem, hc, hf, stored]
set_option maxRecDepth 100000 in
set_option maxHeartbeats 4000000 in
theorem copy_any : ∀ (v : V), totV v ≤ 1000000 → ∀ (w : World) (x : Array Value), VRd w v x → Calls Tryz.prog 51 #[.agg x] w (CopyOk w v) := by
  refine V.ind fun k b n t ks l ih => ?_
  intro ht w x hx
  rw [totV_mk] at ht
  have hlen := totVs_length l
  obtain ⟨pk, ck, pl, cl, rfl, _, hk1, hl1⟩ := VRd_iff.1 hx
  have hT := TwoV.start w #[.int .i64 k, .bool b, .int .i64 n, .string (strB t), .slice pk ks.length ck, .slice pl l.length cl] #[.int .i64 0, .bool false, .int .i64 0, .string ⟨#[]⟩, .slice none 0 0, .slice none 0 0]
  have HC := Lib.hid (clone_any (hk1.below hT.2.2) (by omega))
  have HI := Lib.hid (fun (W : World) (hb : Below w.heap.size w W) => copies_any (hl1.below hb) (by omega) (fun v hv W x hx => ih v hv (by have := totVs_mem hv; omega) W x hx))
  have HT := Lib.hid hT
  clear ih hx hk1 hl1 hT ht hlen
  go_enter Tryz.func51, Tryz.ntmps51
  go_wp2_with (first
    | (go_at_call 88
       (
         refine HC.out.mono ?_
         rintro e w1 ⟨vk, rfl, hvk, hb1⟩
         obtain ⟨pk', ck', rfl⟩ := slices_of hvk
         have hT1 := HT.out.below hb1
         have hp1 := put_keys (p := pk') (n := ks.length) (c := ck') (cellOf (o := 4) hT1.1 rfl) (freeOf hT1.1)
         have hbx := box_set (k := 4) (.slice pk' ks.length ck') hT1.1
         have hB2 := belowSet hT1.2.2 (Nat.le_refl _) (.slice pk' ks.length ck') (o := 4)
         have hby := (Below.heap_setCell w1 ⟨w.heap.size, 4, none⟩ (.slice pk' ks.length ck') (w.heap.size + 1) (by simp)).trans hT1.2.1
         have hvk2 := (hvk.keep (w' := w1.setCell ⟨w.heap.size, 4, none⟩ (.slice pk' ks.length ck')) (fun b hb _ => Below.heap_setCell w1 ⟨w.heap.size, 4, none⟩ _ b (by show b ≠ w.heap.size; simp only [World.size_alloc] at hb; omega))).imp (P' := fun b => w.heap.size + 2 ≤ b) (fun b _ hb => by simp only [World.size_alloc] at hb; omega)
         have HL5 := Lib.hid (run_load1 (P := Tryz.prog) Tryz.underlying24 rfl (cellOf (o := 5) hbx rfl))
         have HP1 := Lib.hid hp1
         have HB2 := Lib.hid (And.intro hbx (And.intro hby (And.intro hB2 hvk2)))
         clear hvk hvk2 hb1 hT1 hp1 hbx hB2 hby))
    | (go_at_call 83
       (
         refine (HI.out _ HB2.out.2.2.1).mono ?_
         rintro e w3 ⟨vl, rfl, hvl, hb3⟩
         obtain ⟨pl', cl', rfl⟩ : ∃ p c, vl = .slice p l.length c := by obtain ⟨_, h, _⟩ := hvl; exact slices_of h
         obtain ⟨hbx, hby, hB2, hvk2⟩ := HB2.out
         have hx3 := belowBlk hb3 (Array.getElem?_eq_some_iff.1 hbx).1 hbx
         have hy3 := belowBlk hb3 (Array.getElem?_eq_some_iff.1 hby).1 hby
         have hlt := (Array.getElem?_eq_some_iff.1 hby).1
         have hp2 := put_vals (p := pl') (n := l.length) (c := cl') (cellOf (o := 5) hx3 rfl) (freeOf hx3)
         have hx4 := box_set (k := 5) (.slice pl' l.length cl') hx3
         have hy4 := (Below.heap_setCell w3 ⟨w.heap.size, 5, none⟩ (.slice pl' l.length cl') (w.heap.size + 1) (by simp)).trans hy3
         have hother := fun b => Below.heap_setCell w3 ⟨w.heap.size, 5, none⟩ (.slice pl' l.length cl') b
         have hvk4 := (hvk2.keep (fun b _ h => hb3.block b h)).keep (w' := w3.setCell ⟨w.heap.size, 5, none⟩ (.slice pl' l.length cl')) (fun b hb _ => hother b (by show b ≠ w.heap.size; omega))
         obtain ⟨xs, hl1, hl2⟩ := hvl
         have hvl4 : LOwn (w3.setCell ⟨w.heap.size, 5, none⟩ (.slice pl' l.length cl')) (fun b => w.heap.size + 2 ≤ b) (.slice pl' l.length cl') l :=
           ⟨xs, (hl1.keep (fun b hb _ => hother b (by show b ≠ w.heap.size; omega))).imp (fun b _ hb => by omega), (hl2.keep (fun b hb _ => hother b (by show b ≠ w.heap.size; omega))).imp (fun b _ hb => by omega)⟩
         have hB4 := belowSet (below_trans hB2 hb3) (Nat.le_refl _) (.slice pl' l.length cl') (o := 5)
         generalize w3.setCell ⟨w.heap.size, 5, none⟩ (.slice pl' l.length cl') = w4 at *
         have HL4 := Lib.hid (get_val (g := w.heap.size) hx4)
         have hst4 := run_storeVar_row (P := Tryz.prog) w4 (w.heap.size + 1) 26 26 _ #[.int .i64 k, .bool b, .int .i64 n, .string (strB t), .slice pk' ks.length ck', .slice pl' l.length cl'] hy4 (by kernel_rfl) rfl (by simp [Value.oneCell'])
         have hy5 := setRow_heap w4 (w.heap.size + 1) _ #[.int .i64 k, .bool b, .int .i64 n, .string (strB t), .slice pk' ks.length ck', .slice pl' l.length cl'] 26 _ hy4
         have hoth5 := fun (g : Nat) (hg : w.heap.size + 2 ≤ g) => setRow_other w4 (w.heap.size + 1) g #[.int .i64 k, .bool b, .int .i64 n, .string (strB t), .slice pk' ks.length ck', .slice pl' l.length cl'] (by omega)
         have hT5 : Touch (fun b => b = w.heap.size + 1) w4 (w4.setRow (w.heap.size + 1) #[.int .i64 k, .bool b, .int .i64 n, .string (strB t), .slice pk' ks.length ck', .slice pl' l.length cl']) := ⟨rfl, rfl, rfl, by simp, fun g _ hg => setRow_other w4 (w.heap.size + 1) g _ hg⟩
         have hB5 : Below w.heap.size w (w4.setRow (w.heap.size + 1) #[.int .i64 k, .bool b, .int .i64 n, .string (strB t), .slice pk' ks.length ck', .slice pl' l.length cl']) := hT5.below hB4 (fun b hb e => by omega) hB4.size
         have hvk5 := (hvk4.keep (fun b hb _ => hoth5 b hb)).imp (P' := fun b => w.heap.size ≤ b) (fun b _ hb => by omega)
         have hvl5 : LOwn (w4.setRow (w.heap.size + 1) #[.int .i64 k, .bool b, .int .i64 n, .string (strB t), .slice pk' ks.length ck', .slice pl' l.length cl']) (fun b => w.heap.size ≤ b) (.slice pl' l.length cl') l := by
           obtain ⟨xs, hl1, hl2⟩ := hvl4
           exact ⟨xs, (hl1.keep (fun b hb _ => hoth5 b hb)).imp (fun b _ hb => by omega), (hl2.keep (fun b hb _ => hoth5 b hb)).imp (fun b _ hb => by omega)⟩
         have HF := Lib.hid (And.intro (get_val hy5) (And.intro hvk5 (And.intro hvl5 hB5)))
         have HS4 := Lib.hid hst4
         have HP2 := Lib.hid hp2
         generalize w4.setRow (w.heap.size + 1) #[.int .i64 k, .bool b, .int .i64 n, .string (strB t), .slice pk' ks.length ck', .slice pl' l.length cl'] = w5 at *
         clear hvk2 hvk4 hvl4 hB4 hB2 hb3 hbx hby hx3 hy3 hx4 hy4 hother hlt hl1 hl2 HB2 HP1 hp2 hst4 hy5 hoth5 hT5 hB5 hvk5 hvl5))
    | (refine wpList_store rfl _ _ _ _ rfl rfl rfl HP1.out ?_)
    | (refine wpList_store rfl _ _ _ _ rfl rfl rfl HP2.out ?_)
    | (refine wpList_load rfl _ _ _ rfl rfl HL5.out ?_)
    | (refine wpList_load rfl _ _ _ rfl rfl HL4.out ?_)
    | (refine wpList_store rfl _ _ _ _ rfl rfl rfl HS4.out ?_))
  exact bodyPost_ret (results_cell_one rfl _ _ ⟨w.heap.size + 1, 0, none⟩ _ rfl HF.out.1) rfl ⟨_, rfl, VOwn_iff.2 ⟨_, _, rfl, HF.out.2.1, HF.out.2.2.1⟩, HF.out.2.2.2⟩

theorem copies_ok {w : World} {p : Option Addr} {c : Nat} {l : List V} (hl : LRd w p c l) (ht : totVs l ≤ 1000000) :
    Calls Tryz.prog 83 #[.slice p l.length c] w fun e w' => ∃ vl, e = .returned vl ∧ LOwn w' (fun b => w.heap.size ≤ b) vl l ∧ Below w.heap.size w w' :=
  copies_any hl (by have := totVs_length l; omega) fun v hv W x hx => copy_any v (by have := totVs_mem hv; omega) W x hx
set_option maxRecDepth 100000 in
set_option maxHeartbeats 4000000 in
theorem list_any {w : World} {p : Option Addr} {c : Nat} {l : List V} (hl : LRd w p c l) (ht : totVs l ≤ 1000000) :
    Calls Tryz.prog 38 #[.slice p l.length c] w (CopyOk w (.mk 4 false 0 [] [] l)) := by
  have hb0 := below_new (w := w) (.cells #[.int .i64 0, .bool false, .int .i64 0, .string ⟨#[]⟩, .slice none 0 0, .slice none 0 0] 26)
  have hx0 := heap_alloc_new w (.cells #[.int .i64 0, .bool false, .int .i64 0, .string ⟨#[]⟩, .slice none 0 0, .slice none 0 0] 26)
  have HI := Lib.hid (copies_ok (hl.below hb0) ht)
  have HB := Lib.hid (And.intro hb0 hx0)
  clear hl ht hb0 hx0
  go_enter Tryz.func38, Tryz.ntmps38
  go_wp2_with (first
    | (go_at_call 83
       (
         refine HI.out.mono ?_
         rintro e w3 ⟨vl, rfl, hvl, hb3⟩
         obtain ⟨pl', cl', rfl⟩ : ∃ p c, vl = .slice p l.length c := by obtain ⟨_, h, _⟩ := hvl; exact slices_of h
         obtain ⟨hB0, hx0⟩ := HB.out
         have hx3 := belowBlk hb3 (Array.getElem?_eq_some_iff.1 hx0).1 hx0
         have hB3 := below_trans hB0 hb3
         have hst4 := run_storeVar_row (P := Tryz.prog) w3 w.heap.size 26 26 _ #[.int .i64 4, .bool false, .int .i64 0, .string ⟨#[]⟩, .slice none 0 0, .slice pl' l.length cl'] hx3 (by kernel_rfl) rfl (by simp [Value.oneCell'])
         have hy5 := setRow_heap w3 w.heap.size _ #[.int .i64 4, .bool false, .int .i64 0, .string ⟨#[]⟩, .slice none 0 0, .slice pl' l.length cl'] 26 _ hx3
         have hoth5 := fun (g : Nat) (hg : w.heap.size + 1 ≤ g) => setRow_other w3 w.heap.size g #[.int .i64 4, .bool false, .int .i64 0, .string ⟨#[]⟩, .slice none 0 0, .slice pl' l.length cl'] (by omega)
         have hT5 : Touch (fun b => b = w.heap.size) w3 (w3.setRow w.heap.size #[.int .i64 4, .bool false, .int .i64 0, .string ⟨#[]⟩, .slice none 0 0, .slice pl' l.length cl']) := ⟨rfl, rfl, rfl, by simp, fun g _ hg => setRow_other w3 w.heap.size g _ hg⟩
         have hB5 : Below w.heap.size w (w3.setRow w.heap.size #[.int .i64 4, .bool false, .int .i64 0, .string ⟨#[]⟩, .slice none 0 0, .slice pl' l.length cl']) := hT5.below hB3 (fun b hb e => by omega) hB3.size
         have hvl5 : LOwn (w3.setRow w.heap.size #[.int .i64 4, .bool false, .int .i64 0, .string ⟨#[]⟩, .slice none 0 0, .slice pl' l.length cl']) (fun b => w.heap.size ≤ b) (.slice pl' l.length cl') l := by
           obtain ⟨xs, hl1, hl2⟩ := hvl
           simp only [World.size_alloc] at hl1 hl2
           exact ⟨xs, (hl1.keep (fun b hb _ => hoth5 b hb)).imp (fun b _ hb => by omega), (hl2.keep (fun b hb _ => hoth5 b hb)).imp (fun b _ hb => by omega)⟩
         have HF := Lib.hid (And.intro (get_val hy5) (And.intro hvl5 hB5))
         have HS4 := Lib.hid hst4
         generalize w3.setRow w.heap.size #[.int .i64 4, .bool false, .int .i64 0, .string ⟨#[]⟩, .slice none 0 0, .slice pl' l.length cl'] = w5 at *
         clear hvl hb3 hx3 hB3 hst4 hy5 hoth5 hT5 hB5 hvl5 hB0 hx0 HB HI))
    | (refine wpList_store rfl _ _ _ _ rfl rfl rfl HS4.out ?_))
  exact bodyPost_ret (results_cell_one rfl _ _ ⟨w.heap.size, 0, none⟩ _ rfl HF.out.1) rfl ⟨_, rfl, VOwn_iff.2 ⟨_, _, rfl, ⟨⟨rfl, .inl ⟨rfl, rfl⟩⟩, fun g hg => by simp [Value.ownBlock] at hg⟩, HF.out.2.1⟩, HF.out.2.2⟩
end Go.Proofs.YtnkaegdnjfpliaaGreatDoor
