/- value.tell, value.Text. Printed by gen_tell.py. -/
import Derived.Test.YtnkaegdnjfpliaaGreatDoorVquote
import Derived.Test.YtnkaegdnjfpliaaGreatDoorVcheck
import Derived.Test.YtnkaegdnjfpliaaGreatDoorVcopy
import Derived.Test.YtnkaegdnjfpliaaGreatDoorTxt
import Derived.Lib.ItoaLen
import Derived.Lib.AppendIntMem
namespace Go.Proofs.YtnkaegdnjfpliaaGreatDoor
set_option linter.unusedSimpArgs false
set_option linter.unusedVariables false
open Go.RowKit

mutual
/-- Numbers are within sixty-four bits. -/
def rngV : V → Prop
  | .mk _ _ n _ _ l => (-9223372036854775808 ≤ n ∧ n ≤ 9223372036854775807) ∧ rngVs l
def rngVs : List V → Prop
  | [] => True
  | a :: x => rngV a ∧ rngVs x
end
theorem rngV_mk {k : Int} {b : Bool} {n : Int} {t : List UInt8} {ks : List (List UInt8)} {l : List V} : rngV (.mk k b n t ks l) ↔ (-9223372036854775808 ≤ n ∧ n ≤ 9223372036854775807) ∧ rngVs l := by rw [rngV]
theorem rngVs_iff {l : List V} : rngVs l ↔ ∀ v ∈ l, rngV v := by
  induction l with
  | nil => simp [rngVs]
  | cons a x ih => simp [rngVs, ih]
/-! ### How long texts are -/
theorem join_le (xs : List (List UInt8)) (sep : List UInt8) : (Lib.join xs sep).length ≤ Lib.lens xs + sep.length * xs.length := by
  cases xs with
  | nil => simp [Lib.join_nil]
  | cons x r =>
    rw [Lib.join_cons, List.length_append, Lib.joinTail_length, List.length_cons, Nat.mul_succ]
    have : Lib.lens (x :: r) = x.length + Lib.lens r := by simp [Lib.lens]
    omega
theorem quoteB_len (s : List UInt8) : (quoteB s).length ≤ 6 * s.length + 2 := by
  have := esc_len s
  unfold quoteB
  rw [List.length_cons, List.length_append, List.length_cons, List.length_nil]
  omega
theorem nameB_len (s : List UInt8) : (nameB s).length ≤ 2 * s.length + 2 := by
  have := tick_len s
  unfold nameB
  split
  · omega
  · rw [List.length_cons, List.length_append, List.length_cons, List.length_nil]
    omega
theorem entriesV_length : ∀ (l : List V) (ks : List (List UInt8)), (entriesV ks l).length = l.length := by
  intro l
  induction l with
  | nil => intro ks; simp [entriesV]
  | cons a x ih => intro ks; simp [entriesV, ih]
theorem lens_texts {l : List V} (h : ∀ v ∈ l, (textV v).length + 8 ≤ 40 * totV v) : Lib.lens (textsV l) + 2 * (textsV l).length ≤ 40 * totVs l := by
  induction l with
  | nil => simp [textsV, Lib.lens, totVs]
  | cons a x ih =>
    have h1 := h a (by simp)
    have h2 := ih fun v hv => h v (by simp [hv])
    have e : Lib.lens (textsV (a :: x)) = (textV a).length + Lib.lens (textsV x) := by simp [Lib.lens, textsV]
    have e2 : (textsV (a :: x)).length = (textsV x).length + 1 := by simp [textsV]
    rw [e, e2, totVs_cons]
    omega
theorem lens_entries {l : List V} (h : ∀ v ∈ l, (textV v).length + 8 ≤ 40 * totV v) : ∀ ks : List (List UInt8), Lib.lens (entriesV ks l) + 2 * (entriesV ks l).length ≤ 40 * totVs l + 2 * (ks.map List.length).sum := by
  induction l with
  | nil => intro ks; simp [entriesV, Lib.lens, totVs]
  | cons a x ih =>
    intro ks
    have h1 := h a (by simp)
    have h2 := ih (fun v hv => h v (by simp [hv])) ks.tail
    have h3 := nameB_len (ks.headD [])
    have h4 : (ks.map List.length).sum = (ks.headD []).length + (ks.tail.map List.length).sum := by cases ks <;> simp
    have e : Lib.lens (entriesV ks (a :: x)) = (nameB (ks.headD [])).length + 2 + (textV a).length + Lib.lens (entriesV ks.tail x) := by simp [Lib.lens, entriesV]; omega
    have e2 : (entriesV ks (a :: x)).length = (entriesV ks.tail x).length + 1 := by simp [entriesV]
    rw [e, e2, totVs_cons]
    omega
theorem text_len : ∀ v : V, rngV v → (textV v).length + 8 ≤ 40 * totV v := by
  refine V.ind fun k b n t ks l ih => ?_
  intro hr
  obtain ⟨⟨r1, r2⟩, hl⟩ := rngV_mk.1 hr
  have hl := rngVs_iff.1 hl
  have h1 := lens_texts fun v hv => ih v hv (hl v hv)
  have h2 := lens_entries (fun v hv => ih v hv (hl v hv)) ks
  have h3 := Lib.itoa_length_le n r1 r2
  have h4 := quoteB_len t
  have h5 := join_le (textsV l) [44, 32]
  have h6 := join_le (entriesV ks l) [44, 32]
  simp only [List.length_cons, List.length_nil] at h5 h6
  rw [totV_mk, textV]
  split
  · split <;> (simp; omega)
  split
  · omega
  split
  · omega
  split
  · simp; omega
  split
  · simp; omega
  split
  · simp; omega
  split
  · simp; omega
  · simp; omega
theorem entriesV_get : ∀ {l : List V} {ks : List (List UInt8)} (_ : ks.length = l.length) {j : Nat} (h : j < l.length) (h' : j < ks.length), (entriesV ks l)[j]? = some (nameB ks[j] ++ [58, 32] ++ textV l[j]) := by
  intro l
  induction l with
  | nil => intro ks _ j h; simp at h
  | cons a x ih =>
    intro ks hk j h h'
    cases ks with
    | nil => simp at h'
    | cons c r =>
      cases j with
      | zero => simp [entriesV]
      | succ j =>
        have := ih (ks := r) (by simpa using hk) (j := j) (by simpa using h) (by simpa using h')
        simpa [entriesV] using this
theorem textsV_get {l : List V} {j : Nat} (h : j < l.length) : (textsV l)[j]? = some (textV l[j]) := by
  rw [textsV_eq, List.getElem?_map, List.getElem?_eq_getElem h]; rfl
/-! ### The walk -/
theorem itoa_any {w : World} (hE : Env w) (n : Int) (h0 : -9223372036854775808 ≤ n) (h1 : n ≤ 9223372036854775807) : Calls Tryz.prog 70 #[.int .i64 n, .int .i64 10] w fun e w' => e = .returned (.string (strB (Lib.itoa n))) ∧ Below w.heap.size w w' := by
  refine (Tryz.strconv_FormatInt_10 n h0 h1 w (hE.pow w (Below.refl _ _))).mono ?_
  rintro e w' ⟨rfl, k, os, rfl⟩
  exact ⟨rfl, Lib.below_grow _ _ (Nat.le_refl _) _ _⟩
theorem bool_text (b : Bool) (w : World) : Calls Tryz.prog 69 #[.bool b] w fun e w' => e = .returned (.string (strB (if b then [116, 114, 117, 101] else [102, 97, 108, 115, 101]))) ∧ w' = w := by
  refine (Tryz.strconv_FormatBool b w).mono ?_
  rintro e w' ⟨rfl, rfl⟩
  exact ⟨by cases b <;> rfl, rfl⟩
theorem info_str : ∃ i, Tryz.prog.info? 9 = some i ∧ i.zero = some (.string ⟨#[]⟩) ∧ i.size = 1 ∧ i.bytes = 16 := info_parts (by kernel_rfl)
/-- Texts that were told so far, beside a box. -/
def SInv (w W : World) (x : Array Value) (o : Value) (m : List (List UInt8)) : Prop := OwnsP W (fun b => w.heap.size + 1 ≤ b) 9 1 o m.length (m.map strV) ∧ OneB w W x
theorem SInv.start {w W : World} {x : Array Value} (h : OneB w W x) : SInv w W x (.slice none 0 0) [] := ⟨⟨⟨rfl, .inl ⟨rfl, rfl⟩⟩, fun g hg => by simp [Value.ownBlock] at hg⟩, h⟩
theorem SInv.below {w W W' : World} {x : Array Value} {o : Value} {m : List (List UInt8)} (h : SInv w W x o m) (g : Below W.heap.size W W') : SInv w W' x o m :=
  ⟨h.1.keep fun b _ hb => g.block b hb, h.2.below g⟩
theorem append_str {w : World} {vl : Value} {n : Nat} {ys : List Value} (hown : w.ownsRow 0 9 1 vl n ys) {g : Nat} {S : ByteArray}
    (hc : w.heap[g]? = some (.cells #[.string S] 9 (0, 0))) (hn : n ≤ 1000000) (ty : TypeId) :
    ∃ v' w', (Builtin.append_ #[23, 23] ty #[vl, .slice (some ⟨g, 0, none⟩) 1 1]).run Tryz.prog w = .ok v' w' ∧ w'.ownsRow 0 9 1 v' (n + 1) (ys ++ [.string S]) ∧ Touch (fun b => vl.ownBlock = some b) w w' ∧
      (v'.ownBlock = vl.ownBlock ∨ v'.ownBlock = some w.heap.size) ∧ w.heap.size ≤ w'.heap.size := by
  obtain ⟨i, i1, i2, i3, i4⟩ := info_str
  exact append_law (P := Tryz.prog) (w := w) 23 ty 9 i _ 1 16 Tryz.underlying23 i1 i2 i3 i4 rfl vl n ys hown ⟨g, 0, none⟩ 1 1 [.string S] (by simp) (fun j u hu => by
    rw [addr_add, Nat.zero_add]; exact cellOf hc (by simpa using hu)) (by simp [Value.oneCell']) (by unfold maxLen; omega) (by omega)
theorem SInv.step {w W W1 : World} {x : Array Value} {o : Value} {m : List (List UInt8)} (h : SInv w W x o m) (hb : Below W.heap.size W W1) (S : ByteArray) (s : List UInt8) (hS : S = strB s) (hm : m.length ≤ 1000000) (ty : TypeId) :
    ∃ v' W2, (Builtin.append_ #[23, 23] ty #[o, .slice (some ⟨W1.heap.size, 0, none⟩) 1 1]).run Tryz.prog (W1.alloc (.cells #[.string S] 9)) = .ok v' W2 ∧ SInv w W2 x v' (m ++ [s]) := by
  subst hS
  obtain ⟨h1, h2⟩ := (h.below hb).below (below_new (.cells #[.string (strB s)] 9))
  obtain ⟨v', W2, a1, a2, a3, a4, a5⟩ := append_str h1.1 (heap_alloc_new W1 _) hm ty
  have hsz := h2.2.size
  have hlt := (Array.getElem?_eq_some_iff.1 h2.1).1
  refine ⟨v', W2, a1, ⟨?_, fun g hg => ?_⟩, ?_, ?_⟩
  · rw [List.map_append, List.length_append]
    exact a2
  · rcases a4 with e | e
    · exact h1.2 g (e.symm.trans hg)
    · rw [e] at hg
      cases hg
      omega
  · rw [a3.block _ hlt (fun e => by have := h1.2 _ e; omega)]
    exact h2.1
  · exact a3.below h2.2 (fun b hb e => by have := h1.2 b e; omega) hsz
theorem join_any {W : World} {P : Nat → Prop} {o : Value} {m : List (List UInt8)} (h : OwnsP W P 9 1 o m.length (m.map strV)) (hn : m.length ≤ 1000000) (hl : (Lib.join m [44, 32]).length ≤ 140737488355328) :
    Calls Tryz.prog 100 #[o, .string (strB [44, 32])] W fun e w' => e = .returned (.string (strB (Lib.join m [44, 32]))) ∧ Below W.heap.size W w' := by
  rcases h.1.2 with ⟨rfl, h0⟩ | ⟨g, cap, cur, rfl, _, hg, hnc, hcm, _⟩
  · have : m = [] := List.eq_nil_of_length_eq_zero h0
    subst this
    refine (Tryz.strings_Join_none none 0 (strB [44, 32]) W).mono ?_
    rintro e w' ⟨rfl, rfl⟩
    exact ⟨rfl, Below.refl _ _⟩
  · have hm : (m.map strB).map (·.data.toList) = m := by
      rw [List.map_map]
      conv => rhs; rw [← List.map_id m]
      exact List.map_congr_left fun s _ => rfl
    have hJ := Tryz.strings_Join g 0 cap (m.map strB) (strB [44, 32]) W (fun j x hx => by
        have := h.1.cells (g := g) rfl j (.string x) (by
          rw [List.getElem?_map] at hx ⊢
          cases hmj : m[j]? with
          | none => rw [hmj] at hx; cases hx
          | some s => rw [hmj] at hx; cases hx; rfl)
        rw [addr_add] at this
        exact this) (Array.getElem?_eq_some_iff.1 hg).1 (by rw [List.length_map]; omega) (by rw [List.length_map]; exact hnc) (by rw [hm]; exact hl)
    rw [hm, List.length_map] at hJ
    exact hJ
set_option maxRecDepth 100000 in
set_option maxHeartbeats 8000000 in
theorem tell_any : ∀ (v : V), mayV Lib.validD v = true → rngV v → totV v ≤ 1000000 → ∀ (w : World) (x : Array Value), Env w → VRd w v x →
    Calls Tryz.prog 67 #[.agg x] w fun e w' => e = .returned (.string (strB (textV v))) ∧ Below w.heap.size w w' := by
  refine V.ind fun k b n t ks l ih => ?_
  intro hmay hrng htot w x hE hx
  have hlen := text_len _ hrng
  obtain ⟨hone, hsub⟩ := mayV_iff.1 hmay
  have hF := oneV_iff.1 hone
  obtain ⟨⟨r1, r2⟩, hrl⟩ := rngV_mk.1 hrng
  have hrl := rngVs_iff.1 hrl
  rw [totV_mk] at htot hlen
  have hlen' := totVs_length l
  obtain ⟨pk, ck, pl, cl, rfl, _, hk1, hl1⟩ := VRd_iff.1 hx
  have f1 := hF.lo
  have f2 := hF.hi
  have f3 := hF.len
  have f4 := hF.utf
  have f5 := hF.each
  simp only [V.kind, V.text, V.keys, V.list] at f1 f2 f3 f4 f5 hsub
  have hT := OneB.start w #[.int .i64 k, .bool b, .int .i64 n, .string (strB t), .slice pk ks.length ck, .slice pl l.length cl]
  have HI := Lib.hid (fun (W : World) (hb : Below w.heap.size w W) => itoa_any (hE.b hb) n r1 r2)
  have HQ := Lib.hid (fun (W : World) (hb : Below w.heap.size w W) => quote_any (hE.b hb) t (by omega))
  have HT := Lib.hid hT
  have hL : LRd w pl cl l := hl1
  have hil := Lib.itoa_length_le n r1 r2
  have zi : ((Lib.itoa n).length : Int) ≤ 21 := by omega
  have zs : (strB (Lib.itoa n)).size = (Lib.itoa n).length := rfl
  have hk : k = 1 ∨ k = 2 ∨ k = 3 ∨ k = 6 ∨ k = 7 ∨ k = 0 ∨ k = 4 ∨ k = 5 := by omega
  clear hone hmay hrng hx hT hl1 f1 f2
  rcases hk with rfl | rfl | rfl | rfl | rfl | rfl | h45
  · have htx : textV (.mk 1 b n t ks l) = if b then [116, 114, 117, 101] else [102, 97, 108, 115, 101] := by rw [textV]; simp
    rw [htx]
    clear htx
    have HBT := Lib.hid (fun W : World => bool_text b W)
    generalize (if b = true then [116, 114, 117, 101] else [102, 97, 108, 115, 101] : List UInt8) = T at *
    go_enter Tryz.func67, Tryz.ntmps67
    go_wp2_with (go_at_call 69; refine (HBT.out _).mono ?_; rintro e w1 ⟨rfl, rfl⟩)
    go_ret
    exact ⟨rfl, HT.out.2⟩
  · have htx : textV (.mk 2 b n t ks l) = Lib.itoa n := by rw [textV]; simp
    rw [htx]
    clear htx
    go_enter Tryz.func67, Tryz.ntmps67
    go_wp2_with (go_at_call 70; refine (HI.out _ HT.out.2).mono ?_; rintro e w1 ⟨rfl, hb⟩; have HB := Lib.hid (below_trans HT.out.2 hb); clear hb)
    go_ret
    exact ⟨rfl, HB.out⟩
  · have htx : textV (.mk 3 b n t ks l) = quoteF t := by rw [textV, quoteF, f4]; simp
    rw [htx]
    clear htx
    go_enter Tryz.func67, Tryz.ntmps67
    go_wp2_with (go_at_call 34; refine (HQ.out _ HT.out.2).mono ?_; rintro e w1 ⟨rfl, hb⟩; have HB := Lib.hid (below_trans HT.out.2 hb); clear hb)
    go_ret
    exact ⟨rfl, HB.out⟩
  · have htx : strB (textV (.mk 6 b n t ks l)) = strB [60, 110] ++ strB (Lib.itoa n) ++ strB [62] := by rw [textV, strB_append, strB_append]; simp
    rw [htx]
    clear htx
    generalize Lib.itoa n = it at *
    go_enter Tryz.func67, Tryz.ntmps67
    go_wp2_with (go_at_call 70; refine (HI.out _ HT.out.2).mono ?_; rintro e w1 ⟨rfl, hb⟩; have HB := Lib.hid (below_trans HT.out.2 hb); clear hb)
    go_ret
    exact ⟨rfl, HB.out⟩
  · have htx : strB (textV (.mk 7 b n t ks l)) = strB [60, 114] ++ strB (Lib.itoa n) ++ strB [62] := by rw [textV, strB_append, strB_append]; simp
    rw [htx]
    clear htx
    generalize Lib.itoa n = it at *
    go_enter Tryz.func67, Tryz.ntmps67
    go_wp2_with (go_at_call 70; refine (HI.out _ HT.out.2).mono ?_; rintro e w1 ⟨rfl, hb⟩; have HB := Lib.hid (below_trans HT.out.2 hb); clear hb)
    go_ret
    exact ⟨rfl, HB.out⟩
  · have htx : textV (.mk 0 b n t ks l) = [110, 117, 108, 108] := by rw [textV]; simp
    rw [htx]
    clear htx
    go_enter Tryz.func67, Tryz.ntmps67
    go_wp2
    go_ret
    exact ⟨rfl, HT.out.2⟩
  · clear HI HQ zi zs hil r1 r2
    rcases h45 with rfl | rfl
    · have htx : strB (textV (.mk 4 b n t ks l)) = strB [91] ++ strB (Lib.join (textsV l) [44, 32]) ++ strB [93] := by rw [textV, strB_append, strB_append]; simp
      rw [htx]
      have htl : (textV (.mk 4 b n t ks l)).length = (Lib.join (textsV l) [44, 32]).length + 2 := by rw [textV]; simp
      rw [htl] at hlen
      have hEl : (textsV l).length = l.length := by rw [textsV_eq, List.length_map]
      have hEg : ∀ j (h : j < l.length), (textsV l)[j]? = some (textV l[j]) := fun j h => textsV_get h
      have hiv := fun (v : V) (hv : v ∈ l) => ih v hv (hsub v hv) (hrl v hv) (by have := totVs_mem hv; omega)
      have hzv := fun (v : V) (hv : v ∈ l) => (show (textV v).length ≤ 40000000 by have := text_len v (hrl v hv); have := totVs_mem hv; omega)
      generalize (textsV l) = E at *
      have hjl : (Lib.join E [44, 32]).length ≤ 40000000 := by omega
      have zj : ((Lib.join E [44, 32]).length : Int) ≤ 40000000 := by omega
      have HJL := Lib.hid (show (Lib.join E [44, 32]).length ≤ 140737488355328 by omega)
      have zjs : (strB (Lib.join E [44, 32])).size = (Lib.join E [44, 32]).length := rfl
      have z1 : (l.length : Int) ≤ 140737488355328 := by omega
      have HV := Lib.hid (And.intro hiv (And.intro hzv (And.intro hL hE)))
      have HG := Lib.hid (And.intro hEl hEg)
      have hn : l.length ≤ 1000000 := by omega
      have HNN := Lib.hid hn
      clear hiv hzv hEl hEg htx htl hsub hrl ih f4 f5 hlen htot hlen' hE hL hk1 hF f3
      clear hjl
      have HJT : Hid (∃ JT, Lib.join E [44, 32] = JT) := Lib.hid ⟨_, rfl⟩
      go_enter Tryz.func67, Tryz.ntmps67
      go_wp2
      go_loopw [3, 44] (fun o i W => ∃ j : Nat, j ≤ l.length ∧ i = .int .i64 (j : Int) ∧ Hid (SInv w W #[.int .i64 4, .bool b, .int .i64 n, .string (strB t), .slice pk ks.length ck, .slice pl l.length cl] o (E.take j))) (fun _ i _ => l.length - (intOf i).toNat)
      case atStart => exact ⟨0, Nat.zero_le _, rfl, Lib.hid (SInv.start HT.out)⟩
      case round =>
        obtain ⟨j, hj, rfl, HJ⟩ := hrel
        by_cases hlt : j < l.length
        · have hlt1 : j + 1 ≤ l.length := hlt
          have hbw : Below w.heap.size w wr := HJ.out.2.2
          obtain ⟨g1, o1, pk1, ck1, pl1, cl1, rfl, ⟨a0, a1, a2, a3, a4, a5⟩, hv1⟩ := (HV.out.2.2.1.below hbw).at hlt
          have hcall := HV.out.1 l[j] (List.getElem_mem hlt)
          have hzl := HV.out.2.1 l[j] (List.getElem_mem hlt)
          have htk : E.take (j + 1) = E.take j ++ [E[j]'(by rw [HG.out.1]; exact hlt)] := List.take_succ_eq_append_getElem _
          have hej := HG.out.2 j hlt
          rw [List.getElem?_eq_getElem (by rw [HG.out.1]; exact hlt), Option.some.injEq] at hej
          rw [hej] at htk
          generalize l[j] = s1 at *
          have zt : ((textV s1).length : Int) ≤ 40000000 := by omega
          have zts : (strB (textV s1)).size = (textV s1).length := rfl
          have HD := Lib.hid (And.intro htk (And.intro hcall (And.intro hv1 HV.out.2.2.2)))
          have HN := Lib.hid hn
          clear hcall hv1 hbw htk hej hzl hn
          generalize textV s1 = tx at *
          go_wp2_with (first
            | (go_at_call 67
               (
                 refine (HD.out.2.1 _ _ (HD.out.2.2.2.b (below_trans HJ.out.2.2 (below_new _))) (HD.out.2.2.1.below (below_new _))).mono ?_
                 rintro e w1 ⟨rfl, hb⟩
                 have hb1 := below_trans (below_new _) hb
                 have HT1 := Lib.hid (HJ.out.2.below hb1)
                 have p0 := cellOf (o := 0) HT1.out.1 rfl
                 obtain ⟨v', W2, ha, hI⟩ := SInv.step (W1 := w1) HJ.out (hb1) (strB tx) (tx) (by first | rfl | (rw [← strB_append, ← strB_append])) (by rw [List.length_take]; have := HN.out; omega) 23
                 rw [← HD.out.1] at hI
                 have Ha := Lib.hid ha
                 have HI := Lib.hid hI
                 clear ha hI
                 clear hb))
            | (refine wpList_append rfl rfl rfl rfl Ha.out ?_))
          go_roundw
          case rel => exact ⟨j + 1, hlt1, by go_num, HI⟩
          case measure => simp [intOf]; omega
        · obtain rfl : j = l.length := by omega
          have h := HJ.out
          rw [← HG.out.1, List.take_length] at h
          have HF := Lib.hid h
          clear h HJ
          go_wp2_with (first
            | (go_at_call 100
               (
                 refine (join_any HF.out.1 (by rw [HG.out.1]; exact HNN.out) HJL.out).mono ?_
                 rintro e w1 ⟨rfl, hb⟩
                 have HT1 := Lib.hid (HF.out.2.below hb)
                 have p0 := cellOf (o := 0) HT1.out.1 rfl
                 clear hb)))
          go_ret
          exact ⟨rfl, HT1.out.2⟩
    · have htx : strB (textV (.mk 5 b n t ks l)) = strB [123] ++ strB (Lib.join (entriesV ks l) [44, 32]) ++ strB [125] := by rw [textV, strB_append, strB_append]; simp
      rw [htx]
      have htl : (textV (.mk 5 b n t ks l)).length = (Lib.join (entriesV ks l) [44, 32]).length + 2 := by rw [textV]; simp
      rw [htl] at hlen
      have hEl : (entriesV ks l).length = l.length := entriesV_length l ks
      have hEg : ∀ j (h : j < l.length), ∀ (h2 : j < ks.length), (entriesV ks l)[j]? = some (nameF ks[j] ++ [58, 32] ++ textV l[j]) := fun j h h2 => by
        have hv : Lib.validD ks[j] = true := f5 _ (List.getElem_mem _)
        rw [nameF, hv]
        exact entriesV_get (f3 rfl) h h2
      have hiv := fun (v : V) (hv : v ∈ l) => ih v hv (hsub v hv) (hrl v hv) (by have := totVs_mem hv; omega)
      have hzv := fun (v : V) (hv : v ∈ l) => (show (textV v).length ≤ 40000000 by have := text_len v (hrl v hv); have := totVs_mem hv; omega)
      have hkl : ks.length = l.length := f3 rfl
      have hkz : ∀ s ∈ ks, s.length ≤ 2000000 := fun s hs => by have := sum_mem hs; omega
      have HK := Lib.hid (And.intro hkl (And.intro hk1 hkz))
      generalize (entriesV ks l) = E at *
      have hjl : (Lib.join E [44, 32]).length ≤ 40000000 := by omega
      have zj : ((Lib.join E [44, 32]).length : Int) ≤ 40000000 := by omega
      have HJL := Lib.hid (show (Lib.join E [44, 32]).length ≤ 140737488355328 by omega)
      have zjs : (strB (Lib.join E [44, 32])).size = (Lib.join E [44, 32]).length := rfl
      have z1 : (l.length : Int) ≤ 140737488355328 := by omega
      have HV := Lib.hid (And.intro hiv (And.intro hzv (And.intro hL hE)))
      have HG := Lib.hid (And.intro hEl hEg)
      have hn : l.length ≤ 1000000 := by omega
      have HNN := Lib.hid hn
      clear hkl hkz hiv hzv hEl hEg htx htl hsub hrl ih f4 f5 hlen htot hlen' hE hL hk1 hF f3
      clear hjl
      have HJT : Hid (∃ JT, Lib.join E [44, 32] = JT) := Lib.hid ⟨_, rfl⟩
      go_enter Tryz.func67, Tryz.ntmps67
      go_wp2
      go_loopw [3, 44] (fun o i W => ∃ j : Nat, j ≤ l.length ∧ i = .int .i64 (j : Int) ∧ Hid (SInv w W #[.int .i64 5, .bool b, .int .i64 n, .string (strB t), .slice pk ks.length ck, .slice pl l.length cl] o (E.take j))) (fun _ i _ => l.length - (intOf i).toNat)
      case atStart => exact ⟨0, Nat.zero_le _, rfl, Lib.hid (SInv.start HT.out)⟩
      case round =>
        obtain ⟨j, hj, rfl, HJ⟩ := hrel
        by_cases hlt : j < l.length
        · have hlt1 : j + 1 ≤ l.length := hlt
          have hbw : Below w.heap.size w wr := HJ.out.2.2
          obtain ⟨g1, o1, pk1, ck1, pl1, cl1, rfl, ⟨a0, a1, a2, a3, a4, a5⟩, hv1⟩ := (HV.out.2.2.1.below hbw).at hlt
          have hcall := HV.out.1 l[j] (List.getElem_mem hlt)
          have hzl := HV.out.2.1 l[j] (List.getElem_mem hlt)
          have htk : E.take (j + 1) = E.take j ++ [E[j]'(by rw [HG.out.1]; exact hlt)] := List.take_succ_eq_append_getElem _
          have hltk : j < ks.length := by rw [HK.out.1]; exact hlt
          have hej := HG.out.2 j hlt hltk
          rw [List.getElem?_eq_getElem (by rw [HG.out.1]; exact hlt), Option.some.injEq] at hej
          rw [hej] at htk
          obtain ⟨bk, ok, rfl, q0, _⟩ := (HK.out.2.1.below hbw).get hltk
          have hnz := HK.out.2.2 ks[j] (List.getElem_mem hltk)
          have hnl : (nameF ks[j]).length ≤ 4000002 := by unfold nameF; have := nameB_len ks[j]; split <;> simp <;> omega
          have zn : ((nameF ks[j]).length : Int) ≤ 4000002 := by omega
          have zns : (strB (nameF ks[j])).size = (nameF ks[j]).length := rfl
          have hnm := fun (W : World) (hW : Env W) => name_any hW ks[j] hnz
          have hkn : (ks.length : Int) = (l.length : Int) := by rw [HK.out.1]
          generalize ks[j] = s2 at *
          generalize nameF s2 = nm at *
          have HM := Lib.hid hnm
          clear hnm hnz hnl
          generalize l[j] = s1 at *
          have zt : ((textV s1).length : Int) ≤ 40000000 := by omega
          have zts : (strB (textV s1)).size = (textV s1).length := rfl
          have HD := Lib.hid (And.intro htk (And.intro hcall (And.intro hv1 HV.out.2.2.2)))
          have HN := Lib.hid hn
          clear hcall hv1 hbw htk hej hzl hn
          generalize textV s1 = tx at *
          go_wp2_with (first
            | (go_at_call 67
               (
                 refine (HD.out.2.1 _ _ (HD.out.2.2.2.b (below_trans HJ.out.2.2 (below_new _))) (HD.out.2.2.1.below (below_new _))).mono ?_
                 rintro e w1 ⟨rfl, hb⟩
                 have hb1 := below_trans (below_new _) hb
                 have HT1 := Lib.hid (HJ.out.2.below hb1)
                 have p0 := cellOf (o := 0) HT1.out.1 rfl
                 have q1 := belowCell hb1 (ltOf q0) q0
                 have HB1 := Lib.hid hb1
                 have p4 := cellOf (o := 4) HT1.out.1 rfl
                 clear hb))
            | (go_at_call 35
               (
                 refine (HM.out _ (HD.out.2.2.2.b HT1.out.2)).mono ?_
                 rintro e w2 ⟨rfl, hb2⟩
                 have hbb := HB1.out.trans (hb2.mono HB1.out.size)
                 obtain ⟨v', W2, ha, hI⟩ := SInv.step (W1 := w2) HJ.out (hbb) (strB nm ++ strB [58, 32] ++ strB tx) (nm ++ [58, 32] ++ tx) (by first | rfl | (rw [← strB_append, ← strB_append])) (by rw [List.length_take]; have := HN.out; omega) 23
                 rw [← HD.out.1] at hI
                 have Ha := Lib.hid ha
                 have HI := Lib.hid hI
                 clear ha hI
                 clear hb2 hbb))
            | (refine wpList_append rfl rfl rfl rfl Ha.out ?_))
          go_roundw
          case rel => exact ⟨j + 1, hlt1, by go_num, HI⟩
          case measure => simp [intOf]; omega
        · obtain rfl : j = l.length := by omega
          have h := HJ.out
          rw [← HG.out.1, List.take_length] at h
          have HF := Lib.hid h
          clear h HJ
          go_wp2_with (first
            | (go_at_call 100
               (
                 refine (join_any HF.out.1 (by rw [HG.out.1]; exact HNN.out) HJL.out).mono ?_
                 rintro e w1 ⟨rfl, hb⟩
                 have HT1 := Lib.hid (HF.out.2.below hb)
                 have p0 := cellOf (o := 0) HT1.out.1 rfl
                 clear hb)))
          go_ret
          exact ⟨rfl, HT1.out.2⟩
/-- What Text tells. -/
def textF (v : V) : List UInt8 × Int := if checkV Lib.validD v = 0 then (textV v, 0) else ([], checkV Lib.validD v)
set_option maxRecDepth 100000 in
set_option maxHeartbeats 2000000 in
theorem text_any {w : World} {v : V} {x : Array Value} (hE : Env w) (hx : VRd w v x) (hr : rngV v) (ht : totV v ≤ 1000000) :
    Calls Tryz.prog 27 #[.agg x] w fun e w' => e = .returned (.tuple #[.string (strB (textF v).1), .int .i64 (textF v).2]) ∧ Below w.heap.size w w' := by
  have hc := check_ok (v := v) (hE.b (below_new (.cells x 26))) (hx.below (below_new _)) (by omega)
  have HT := Lib.hid (OneB.start w x)
  have HC := Lib.hid hc
  have HE := Lib.hid hE
  have HX := Lib.hid hx
  obtain ⟨pk, ck, pl, cl, rfl, _⟩ := hx.open
  by_cases h0 : checkV Lib.validD v = 0
  · have htf : textF v = (textV v, 0) := by unfold textF; rw [if_pos h0]
    have hmay : mayV Lib.validD v = true := by
      unfold checkV at h0
      split at h0
      · assumption
      · omega
    have HY := Lib.hid (fun (W : World) (hb : Below w.heap.size w W) => tell_any v hmay hr ht W _ (hE.b hb) (hx.below hb))
    rw [h0] at HC
    rw [htf]
    clear htf hmay h0 hc hr ht hE hx HX
    go_enter Tryz.func27, Tryz.ntmps27
    go_wp2_with (first
      | (go_at_call 45
         (
           refine HC.out.mono ?_
           rintro e w1 ⟨rfl, hb⟩
           have HT1 := Lib.hid (HT.out.below hb)
           have HL1 := Lib.hid (get_val HT1.out.1)
           clear hb HC))
      | (go_at_call 67
         (
           refine (HY.out _ HT1.out.2).mono ?_
           rintro e w2 ⟨rfl, hb⟩
           have HB := Lib.hid (below_trans HT1.out.2 hb)
           clear hb))
      | (refine wpList_load rfl _ _ _ rfl rfl HL1.out ?_))
    go_ret2
    exact ⟨rfl, HB.out⟩
  · have htf : textF v = ([], checkV Lib.validD v) := by unfold textF; rw [if_neg h0]
    rw [htf]
    have hne : ((checkV Lib.validD v) == 0) = false := by rw [beq_eq_false_iff_ne]; exact h0
    generalize checkV Lib.validD v = cv at *
    clear htf h0 hc hr ht hE hx HX
    go_enter Tryz.func27, Tryz.ntmps27
    go_wp2_with (first
      | (go_at_call 45
         (
           refine HC.out.mono ?_
           rintro e w1 ⟨rfl, hb⟩
           have HT1 := Lib.hid (HT.out.below hb)
           clear hb HC)))
    go_ret2
    exact ⟨rfl, HT1.out.2⟩
end Go.Proofs.YtnkaegdnjfpliaaGreatDoor
