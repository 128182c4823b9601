/- The document's Rows and Compare. Printed by gen_cmpd.py. -/
import Derived.Test.YtnkaegdnjfpliaaGreatDoorVtexts
import Derived.Test.YtnkaegdnjfpliaaGreatDoorVpub
namespace Go.Proofs.YtnkaegdnjfpliaaGreatDoor
set_option linter.unusedSimpArgs false
set_option linter.unusedVariables false
open Go.RowKit

/-- A world in which two values lie at two addresses. -/
structure PairU (w : World) (s1 s2 : V) (g1 o1 g2 o2 : Nat) (c0 c1 c2 c3 c4 c5 d0 d1 d2 d3 d4 d5 : Value) (W : World) : Prop where
  b : Below w.heap.size w W
  h0 : W.cell? ⟨g1, o1, none⟩ = some c0
  h1 : W.cell? ⟨g1, o1 + 1, none⟩ = some c1
  h2 : W.cell? ⟨g1, o1 + 2, none⟩ = some c2
  h3 : W.cell? ⟨g1, o1 + 3, none⟩ = some c3
  h4 : W.cell? ⟨g1, o1 + 4, none⟩ = some c4
  h5 : W.cell? ⟨g1, o1 + 5, none⟩ = some c5
  q0 : W.cell? ⟨g2, o2, none⟩ = some d0
  q1 : W.cell? ⟨g2, o2 + 1, none⟩ = some d1
  q2 : W.cell? ⟨g2, o2 + 2, none⟩ = some d2
  q3 : W.cell? ⟨g2, o2 + 3, none⟩ = some d3
  q4 : W.cell? ⟨g2, o2 + 4, none⟩ = some d4
  q5 : W.cell? ⟨g2, o2 + 5, none⟩ = some d5
  r1 : VRd W s1 #[c0, c1, c2, c3, c4, c5]
  r2 : VRd W s2 #[d0, d1, d2, d3, d4, d5]
theorem PairU.keep {w W W' : World} {s1 s2 : V} {g1 o1 g2 o2 : Nat} {c0 c1 c2 c3 c4 c5 d0 d1 d2 d3 d4 d5 : Value} (h : PairU w s1 s2 g1 o1 g2 o2 c0 c1 c2 c3 c4 c5 d0 d1 d2 d3 d4 d5 W) (b : Below W.heap.size W W') : PairU w s1 s2 g1 o1 g2 o2 c0 c1 c2 c3 c4 c5 d0 d1 d2 d3 d4 d5 W' :=
  ⟨below_trans h.b b, belowCell b (ltOf h.h0) h.h0, belowCell b (ltOf h.h1) h.h1, belowCell b (ltOf h.h2) h.h2, belowCell b (ltOf h.h3) h.h3, belowCell b (ltOf h.h4) h.h4, belowCell b (ltOf h.h5) h.h5,
   belowCell b (ltOf h.q0) h.q0, belowCell b (ltOf h.q1) h.q1, belowCell b (ltOf h.q2) h.q2, belowCell b (ltOf h.q3) h.q3, belowCell b (ltOf h.q4) h.q4, belowCell b (ltOf h.q5) h.q5, h.r1.below b, h.r2.below b⟩
set_option maxRecDepth 100000 in
set_option maxHeartbeats 4000000 in
theorem rowsR_with {w : World} {p1 p2 : Option Addr} {c1 c2 : Nat} {l1 l2 : List V} (h1 : LRd w p1 c1 l1) (h2 : LRd w p2 c2 l2) (f : V → V → Int)
    (hc : ∀ a ∈ l1, ∀ b ∈ l2, ∀ x y W, VRd W a x → VRd W b y → Calls Tryz.prog 19 #[.agg x, .agg y] W fun e w' => e = .returned (.int .i64 (f a b)) ∧ Below W.heap.size W w') :
    Calls Tryz.prog 47 #[.slice p1 l1.length c1, .slice p2 l2.length c2] w fun e w' => e = .returned (.int .i64 (cmpL f l1 l2)) ∧ Below w.heap.size w w' := by
  have z1 : (l1.length : Int) ≤ 140737488355328 := by have := h1.1.1; have := h1.1.2.1; omega
  have z2 : (l2.length : Int) ≤ 140737488355328 := by have := h2.1.1; have := h2.1.2.1; omega
  have H := Lib.hid (And.intro h1 h2)
  have HC := Lib.hid hc
  clear h1 h2 hc
  go_enter Tryz.func47, Tryz.ntmps47
  go_wp2
  go_loopw [5] (fun i wr => ∃ k : Nat, k ≤ l1.length ∧ k ≤ l2.length ∧ i = .int .i64 (k : Int) ∧ Hid (cmpL f l1 l2 = cmpL f (l1.drop k) (l2.drop k) ∧ Below w.heap.size w wr)) (fun i _ => l1.length - (intOf i).toNat)
  case atStart => exact ⟨0, Nat.zero_le _, Nat.zero_le _, rfl, Lib.hid ⟨by simp, Below.refl _ _⟩⟩
  case round =>
    obtain ⟨k, hk, hk2, rfl, HK⟩ := hrel
    by_cases hlt : k < l1.length
    · have hlt1 : k + 1 ≤ l1.length := hlt
      by_cases hlt2 : k < l2.length
      · have hlt3 : k + 1 ≤ l2.length := hlt2
        have hbd := below_trans HK.out.2 (show Below wr.heap.size wr wr.drew from (Below.refl _ _).drew)
        obtain ⟨g1, o1, pk1, ck1, pl1, cl1, rfl, ⟨a0, a1, a2, a3, a4, a5⟩, hv1⟩ := (H.out.1.below hbd).at hlt
        obtain ⟨g2, o2, pk2, ck2, pl2, cl2, rfl, ⟨q0, q1, q2, q3, q4, q5⟩, hv2⟩ := (H.out.2.below hbd).at hlt2
        have hd := cmpL_drop f hlt hlt2
        have hcc := HC.out l1[k] (List.getElem_mem hlt) l2[k] (List.getElem_mem hlt2)
        generalize l1[k] = s1 at *
        generalize l2[k] = s2 at *
        have hU0 : PairU w s1 s2 g1 (o1 + k * 6) g2 (o2 + k * 6) (.int .i64 s1.kind) (.bool s1.b) (.int .i64 s1.n) (.string (strB s1.text)) (.slice pk1 s1.keys.length ck1) (.slice pl1 s1.list.length cl1) (.int .i64 s2.kind) (.bool s2.b) (.int .i64 s2.n) (.string (strB s2.text)) (.slice pk2 s2.keys.length ck2) (.slice pl2 s2.list.length cl2) wr.drew := ⟨hbd, a0, a1, a2, a3, a4, a5, q0, q1, q2, q3, q4, q5, hv1, hv2⟩
        have HCC := Lib.hid hcc
        have HD := Lib.hid hd
        clear a0 a1 a2 a3 a4 a5 q0 q1 q2 q3 q4 q5 hv1 hv2 hcc hd hbd
        go_wp2
        refine plain_region_draws (fun W => PairU w s1 s2 g1 (o1 + k * 6) g2 (o2 + k * 6) (.int .i64 s1.kind) (.bool s1.b) (.int .i64 s1.n) (.string (strB s1.text)) (.slice pk1 s1.keys.length ck1) (.slice pl1 s1.list.length cl1) (.int .i64 s2.kind) (.bool s2.b) (.int .i64 s2.n) (.string (strB s2.text)) (.slice pk2 s2.keys.length ck2) (.slice pl2 s2.list.length cl2) W) (by kernel_rfl) hU0 (fun hU => ?_)
        refine take 0 19 (v := .slice (some ⟨g1, o1, none⟩) l1.length c1) rfl rfl (by kernel_rfl) (by kernel_rfl) (by kernel_rfl) rfl (fun W hW => exec_move rfl rfl) (by assumption) ?_
        simp only [Act.put, List.setIfInBounds_toArray, List.set_cons_zero, List.set_cons_succ]
        refine take 1 20 (v := .int .i64 (k : Int)) rfl rfl (by kernel_rfl) (by kernel_rfl) (by kernel_rfl) rfl (fun W hW => exec_move rfl rfl) (by assumption) ?_
        simp only [Act.put, List.setIfInBounds_toArray, List.set_cons_zero, List.set_cons_succ]
        refine take 2 21 (v := .pointer (some ⟨g1, o1 + k * 6, none⟩)) rfl rfl (by kernel_rfl) (by kernel_rfl) (by kernel_rfl) rfl (fun W hW => exec_indexAddr rfl rfl rfl (ia_vals _ _ _ _ _ hlt W)) (by assumption) ?_
        simp only [Act.put, List.setIfInBounds_toArray, List.set_cons_zero, List.set_cons_succ]
        refine take 3 22 (v := .agg #[.int .i64 s1.kind, .bool s1.b, .int .i64 s1.n, .string (strB s1.text), .slice pk1 s1.keys.length ck1, .slice pl1 s1.list.length cl1]) rfl rfl (by kernel_rfl) (by kernel_rfl) (by kernel_rfl) rfl (fun W hW => exec_load rfl rfl (get_six hW.h0 hW.h1 hW.h2 hW.h3 hW.h4 hW.h5)) (by assumption) ?_
        simp only [Act.put, List.setIfInBounds_toArray, List.set_cons_zero, List.set_cons_succ]
        refine take 4 23 (v := .slice (some ⟨g2, o2, none⟩) l2.length c2) rfl rfl (by kernel_rfl) (by kernel_rfl) (by kernel_rfl) rfl (fun W hW => exec_move rfl rfl) (by assumption) ?_
        simp only [Act.put, List.setIfInBounds_toArray, List.set_cons_zero, List.set_cons_succ]
        refine take 5 24 (v := .int .i64 (k : Int)) rfl rfl (by kernel_rfl) (by kernel_rfl) (by kernel_rfl) rfl (fun W hW => exec_move rfl rfl) (by assumption) ?_
        simp only [Act.put, List.setIfInBounds_toArray, List.set_cons_zero, List.set_cons_succ]
        refine take 6 25 (v := .pointer (some ⟨g2, o2 + k * 6, none⟩)) rfl rfl (by kernel_rfl) (by kernel_rfl) (by kernel_rfl) rfl (fun W hW => exec_indexAddr rfl rfl rfl (ia_vals _ _ _ _ _ hlt2 W)) (by assumption) ?_
        simp only [Act.put, List.setIfInBounds_toArray, List.set_cons_zero, List.set_cons_succ]
        refine take 7 26 (v := .agg #[.int .i64 s2.kind, .bool s2.b, .int .i64 s2.n, .string (strB s2.text), .slice pk2 s2.keys.length ck2, .slice pl2 s2.list.length cl2]) rfl rfl (by kernel_rfl) (by kernel_rfl) (by kernel_rfl) rfl (fun W hW => exec_load rfl rfl (get_six hW.q0 hW.q1 hW.q2 hW.q3 hW.q4 hW.q5)) (by assumption) ?_
        simp only [Act.put, List.setIfInBounds_toArray, List.set_cons_zero, List.set_cons_succ]
        refine onlyCall 8 27 rfl rfl (by kernel_rfl) rfl (exec_call [.agg #[.int .i64 s1.kind, .bool s1.b, .int .i64 s1.n, .string (strB s1.text), .slice pk1 s1.keys.length ck1, .slice pl1 s1.list.length cl1], .agg #[.int .i64 s2.kind, .bool s2.b, .int .i64 s2.n, .string (strB s2.text), .slice pk2 s2.keys.length ck2, .slice pl2 s2.list.length cl2]] rfl rfl Tryz.func19 (by kernel_rfl) (by kernel_rfl)) ?_
        refine (HCC.out _ _ _ hU.r1 hU.r2).mono ?_
        rintro e w5 ⟨rfl, hb5⟩
        have hU2 := hU.keep hb5
        clear hb5
        refine ⟨_, rfl, .inr hU2, ?_⟩
        simp only [Act.put, List.setIfInBounds_toArray, List.set_cons_zero, List.set_cons_succ]
        refine take 9 6 (v := .int .i64 (f s1 s2)) rfl rfl (by kernel_rfl) (by kernel_rfl) (by kernel_rfl) rfl (fun W hW => exec_assign rfl rfl) (by assumption) ?_
        simp only [Act.put, List.setIfInBounds_toArray, List.set_cons_zero, List.set_cons_succ]
        refine done (by kernel_rfl) ?_ _
        have HB := Lib.hid hU2.b
        clear hU hU0 hU2 HCC
        by_cases e : f s1 s2 = 0
        · have d : (f s1 s2 != 0) = false := by simp [e]
          have HE := Lib.hid (HK.out.1.trans (by rw [HD.out, if_neg (by simpa using e)]))
          clear e HD HK
          go_wp2
          go_roundw
          case rel => exact ⟨k + 1, by omega, by omega, by go_num, Lib.hid ⟨HE.out, HB.out⟩⟩
          case measure => simp [intOf]; omega
        · have d : (f s1 s2 != 0) = true := by simpa using e
          have HE := Lib.hid (HK.out.1.trans (by rw [HD.out, if_pos (by simpa using e)]))
          clear e HD HK
          go_wp2
          go_ret
          exact ⟨ret_int HE.out.symm, HB.out⟩
      · have hk3 : k = l2.length := by omega
        have HE := Lib.hid (HK.out.1.trans (cmpL_over f hlt (by omega)))
        have HB := Lib.hid HK.out.2
        have hci : cmpI (l1.length : Int) (l2.length : Int) = 1 := by unfold cmpI; rw [if_neg (by omega), if_pos (by omega)]
        clear HK
        go_wp2_with (go_at_call 59; refine (ints_any _ _ _).mono ?_; rintro e w' ⟨rfl, rfl⟩)
        go_ret
        exact ⟨ret_int HE.out.symm, HB.out⟩
    · by_cases hlt2 : k < l2.length
      · have HE := Lib.hid (HK.out.1.trans (cmpL_under f (by omega) hlt2))
        have HB := Lib.hid HK.out.2
        have hci : cmpI (l1.length : Int) (l2.length : Int) = -1 := by unfold cmpI; rw [if_pos (by omega)]
        clear HK
        go_wp2_with (go_at_call 59; refine (ints_any _ _ _).mono ?_; rintro e w' ⟨rfl, rfl⟩)
        go_ret
        exact ⟨ret_int HE.out.symm, HB.out⟩
      · have HE := Lib.hid (HK.out.1.trans (cmpL_out f (by omega) (by omega)))
        have HB := Lib.hid HK.out.2
        have hci : cmpI (l1.length : Int) (l2.length : Int) = 0 := by unfold cmpI; rw [if_neg (by omega), if_neg (by omega)]
        clear HK
        go_wp2_with (go_at_call 59; refine (ints_any _ _ _).mono ?_; rintro e w' ⟨rfl, rfl⟩)
        go_ret
        exact ⟨ret_int HE.out.symm, HB.out⟩
/-- Two boxes, and a key of each. -/
structure KeyTwo (w : World) (X Y : Array Value) (b1 o1 b2 o2 : Nat) (s1 s2 : List UInt8) (W : World) : Prop where
  two : TwoV w W X Y
  one : W.cell? ⟨b1, o1, none⟩ = some (.string (strB s1))
  sec : W.cell? ⟨b2, o2, none⟩ = some (.string (strB s2))
theorem KeyTwo.keep {w W W' : World} {X Y : Array Value} {b1 o1 b2 o2 : Nat} {s1 s2 : List UInt8} (h : KeyTwo w X Y b1 o1 b2 o2 s1 s2 W) (b : Below W.heap.size W W') : KeyTwo w X Y b1 o1 b2 o2 s1 s2 W' :=
  ⟨h.two.below b, belowCell b (ltOf h.one) h.one, belowCell b (ltOf h.sec) h.sec⟩
theorem orI_pos {a : Int} (b : Int) (h : a ≠ 0) : orI a b = a := by unfold orI; rw [if_pos h]
set_option maxRecDepth 100000 in
set_option maxHeartbeats 4000000 in
theorem compareR_any {u : List UInt8 → Bool} : ∀ a : V, mayV u a = true → ∀ b : V, mayV u b = true → ∀ (w : World) (x y : Array Value), VRd w a x → VRd w b y →
    Calls Tryz.prog 19 #[.agg x, .agg y] w fun e w' => e = .returned (.int .i64 (cmpV a b)) ∧ Below w.heap.size w w' := by
  refine V.ind fun k b n t ks l ih => ?_
  intro ha v hb w x y hx hy
  obtain ⟨ha1, ha2⟩ := mayV_iff.1 ha
  obtain ⟨hb1, hb2⟩ := mayV_iff.1 hb
  have f1 := oneV_iff.1 ha1
  have f2 := oneV_iff.1 hb1
  obtain ⟨pk, ck, pl, cl, rfl, tx1, hk1, hl1⟩ := hx.open
  obtain ⟨pk', ck', pl', cl', rfl, tx2, hk2, hl2⟩ := hy.open
  have hrank := @cmpV_rank (.mk k b n t ks l) v
  have hbool := cmpV_bool f1 f2
  have htext := cmpV_text f1 f2
  have hrest := cmpV_rest f1 f2
  cases v with
  | mk k' b' n' t' ks' l' =>
  have hinj : rankV k = rankV k' → k = k' := rankV_inj f1.lo f1.hi f2.lo f2.hi
  have hks : k ≠ 5 → ks = [] := f1.keys
  have hks' : k' ≠ 5 → ks' = [] := f2.keys
  have hls : k ≠ 4 → k ≠ 5 → l = [] := f1.list
  have hls' : k' ≠ 4 → k' ≠ 5 → l' = [] := f2.list
  have hn : k = 4 ∨ k = 5 → n = 0 := fun h => f1.n (show k ≠ 2 by omega) (show k ≠ 6 by omega) (show k ≠ 7 by omega)
  have hn' : k' = 4 ∨ k' = 5 → n' = 0 := fun h => f2.n (show k' ≠ 2 by omega) (show k' ≠ 6 by omega) (show k' ≠ 7 by omega)
  have lo : 0 ≤ k := f1.lo
  have hi : k ≤ 7 := f1.hi
  have lo' : 0 ≤ k' := f2.lo
  have hi' : k' ≤ 7 := f2.hi
  simp only [V.kind, V.b, V.n, V.text, V.keys, V.list] at hrank hbool htext hrest tx1 tx2 hk1 hk2 hl1 hl2 ⊢
  have hihl : ∀ a ∈ l, ∀ b ∈ l', ∀ x y W, VRd W a x → VRd W b y → Calls Tryz.prog 19 #[.agg x, .agg y] W fun e w' => e = .returned (.int .i64 (cmpV a b)) ∧ Below W.heap.size W w' := fun a ha b hb x y W hx hy => ih a ha (ha2 a ha) b (hb2 b hb) W x y hx hy
  generalize cmpV (.mk k b n t ks l) (.mk k' b' n' t' ks' l') = R at *
  have hT := TwoV.start w #[.int .i64 k, .bool b, .int .i64 n, .string (strB t), .slice pk ks.length ck, .slice pl l.length cl] #[.int .i64 k', .bool b', .int .i64 n', .string (strB t'), .slice pk' ks'.length ck', .slice pl' l'.length cl']
  have HI := Lib.hid hihl
  have z1 : (ks.length : Int) ≤ 140737488355328 := by have := hk1.1; have := hk1.2.1; omega
  have z2 : (ks'.length : Int) ≤ 140737488355328 := by have := hk2.1; have := hk2.2.1; omega
  have c0 := cellOf (o := 0) hT.1 rfl; have c1 := cellOf (o := 1) hT.1 rfl; have c2 := cellOf (o := 2) hT.1 rfl; have c3 := cellOf (o := 3) hT.1 rfl; have c4 := cellOf (o := 4) hT.1 rfl; have c5 := cellOf (o := 5) hT.1 rfl
  have q0 := cellOf (o := 0) hT.2.1 rfl; have q1 := cellOf (o := 1) hT.2.1 rfl; have q2 := cellOf (o := 2) hT.2.1 rfl; have q3 := cellOf (o := 3) hT.2.1 rfl; have q4 := cellOf (o := 4) hT.2.1 rfl; have q5 := cellOf (o := 5) hT.2.1 rfl
  have HT := Lib.hid hT
  have HRW := Lib.hid (fun (W : World) (hb : Below w.heap.size w W) => rowsR_with (hl1.below hb) (hl2.below hb) cmpV hihl)
  have HKS := Lib.hid (And.intro hk1 hk2)
  clear ih ha hb ha1 ha2 hb1 hb2 f1 f2 hx hy hihl hT hk1 hk2 hl1 hl2
  by_cases hkk : k = k'
  · subst hkk
    have dk : (k != k) = false := by simp
    clear hrank hinj
    by_cases e1 : k = 1
    · subst e1
      have hR : cmpI (b2i b) (b2i b') = R := (hbool rfl rfl).symm
      have HR := Lib.hid hR
      clear hbool htext hrest hR dk hks hks' hls hls' hn hn' lo hi lo' hi'
      cases b <;> cases b'
      all_goals
        go_enter Tryz.func19, Tryz.ntmps19
        go_wp2
        go_ret
        exact ⟨ret_int HR.out, HT.out.2.2⟩
    · by_cases e3 : k = 3
      · subst e3
        have hR : cmpB t t' = R := (htext rfl rfl).symm
        have HR := Lib.hid hR
        have HC := Lib.hid (fun W => texts_any t t' tx1 tx2 W)
        clear hbool htext hrest hR dk hks hks' hls hls' hn hn' lo hi lo' hi' e1
        go_enter Tryz.func19, Tryz.ntmps19
        go_wp2_with (go_at_call 61; refine (HC.out _).mono ?_; rintro e w3 ⟨rfl, hb3⟩; have HB := Lib.hid (HT.out.below hb3); clear hb3)
        go_ret
        exact ⟨ret_int HR.out, HB.out.2.2⟩
      · have hR := (hrest rfl e1 e3).symm
        clear hbool htext hrest dk
        by_cases e5 : k = 5
        · subst e5
          clear hks hks' hls hls' lo hi lo' hi' e1 e3
          rw [hn (.inr rfl), hn' (.inr rfl), show cmpI 0 0 = 0 from rfl, orI_zero_right] at hR
          have HR := Lib.hid hR
          clear hn hn' hR
          go_enter Tryz.func19, Tryz.ntmps19
          go_wp2
          have HT0 := HT
          clear c0 c1 c2 c3 c4 c5 q0 q1 q2 q3 q4 q5
          go_loopw [5] (fun i wr => ∃ j : Nat, j ≤ ks.length ∧ j ≤ ks'.length ∧ i = .int .i64 (j : Int) ∧ Hid (cmpL cmpB ks ks' = cmpL cmpB (ks.drop j) (ks'.drop j)) ∧ Hid (TwoV w wr #[.int .i64 5, .bool b, .int .i64 n, .string (strB t), .slice pk ks.length ck, .slice pl l.length cl] #[.int .i64 5, .bool b', .int .i64 n', .string (strB t'), .slice pk' ks'.length ck', .slice pl' l'.length cl'])) (fun i _ => ks.length - (intOf i).toNat)
          case atStart => exact ⟨0, Nat.zero_le _, Nat.zero_le _, rfl, Lib.hid (by simp), HT0⟩
          case round =>
            clear HT HT0
            obtain ⟨j, hj, hj2, rfl, HQ, HT⟩ := hrel
            have hT1 := HT.out
            have c4 := cellOf (o := 4) hT1.1 rfl; have c5 := cellOf (o := 5) hT1.1 rfl
            have q4 := cellOf (o := 4) hT1.2.1 rfl; have q5 := cellOf (o := 5) hT1.2.1 rfl
            by_cases hlt : j < ks.length
            · have hlt1 : j + 1 ≤ ks.length := hlt
              by_cases hlt2 : j < ks'.length
              · have hlt3 : j + 1 ≤ ks'.length := hlt2
                have hbd : Below w.heap.size w wr.drew := below_trans hT1.2.2 (Below.refl _ _).drew
                obtain ⟨b1, o1, rfl, r1, y1⟩ := (HKS.out.1.below hbd).get hlt
                obtain ⟨b2, o2, rfl, r2, y2⟩ := (HKS.out.2.below hbd).get hlt2
                have hd := cmpL_drop cmpB hlt hlt2
                have hcu := fun (W : World) => texts_any ks[j] ks'[j] y1 y2 W
                generalize ks[j] = s1 at *
                generalize ks'[j] = s2 at *
                have hU0 : KeyTwo w #[.int .i64 5, .bool b, .int .i64 n, .string (strB t), .slice (some ⟨b1, o1, none⟩) ks.length ck, .slice pl l.length cl] #[.int .i64 5, .bool b', .int .i64 n', .string (strB t'), .slice (some ⟨b2, o2, none⟩) ks'.length ck', .slice pl' l'.length cl'] b1 (o1 + j) b2 (o2 + j) s1 s2 wr.drew := ⟨hT1.below (Below.refl _ _).drew, r1, r2⟩
                have HD := Lib.hid (And.intro hd hcu)
                clear hd hcu r1 r2 y1 y2 hbd hT1
                go_wp2
                by_cases e : s1 = s2
                · subst e
                  have hne : ∀ W, (binOp .neq 9 (.string (strB s1)) (.string (strB s1))).run Tryz.prog W = .ok (.bool false) W := fun W => by rw [run_neStr]; simp
                  have hz : cmpB s1 s1 = 0 := cmpB_self _
                  have hE := HQ.out.trans (by rw [HD.out.1, if_neg (by simpa using hz)])
                  have HE := Lib.hid hE
                  clear hz hE HD
                  refine plain_region_draws (fun W => KeyTwo w #[.int .i64 5, .bool b, .int .i64 n, .string (strB t), .slice (some ⟨b1, o1, none⟩) ks.length ck, .slice pl l.length cl] #[.int .i64 5, .bool b', .int .i64 n', .string (strB t'), .slice (some ⟨b2, o2, none⟩) ks'.length ck', .slice pl' l'.length cl'] b1 (o1 + j) b2 (o2 + j) s1 s1 W) (by kernel_rfl) hU0 (fun hU => ?_)
                  refine take 0 52 (v := .pointer (some ⟨w.heap.size, 4, none⟩)) rfl rfl (by kernel_rfl) (by kernel_rfl) (by kernel_rfl) rfl (fun W hW => exec_fieldAddr rfl rfl (fa_value _ _ (by decide) W)) (by assumption) ?_
                  simp only [Act.put, List.setIfInBounds_toArray, List.set_cons_zero, List.set_cons_succ]
                  refine take 1 53 (v := .slice (some ⟨b1, o1, none⟩) ks.length ck) rfl rfl (by kernel_rfl) (by kernel_rfl) (by kernel_rfl) rfl (fun W hW => exec_load rfl rfl (run_load1 (w := W) Tryz.underlying23 rfl (cellOf hW.two.1 rfl))) (by assumption) ?_
                  simp only [Act.put, List.setIfInBounds_toArray, List.set_cons_zero, List.set_cons_succ]
                  refine take 2 54 (v := .int .i64 (j : Int)) rfl rfl (by kernel_rfl) (by kernel_rfl) (by kernel_rfl) rfl (fun W hW => exec_move rfl rfl) (by assumption) ?_
                  simp only [Act.put, List.setIfInBounds_toArray, List.set_cons_zero, List.set_cons_succ]
                  refine take 3 55 (v := .pointer (some ⟨b1, o1 + j, none⟩)) rfl rfl (by kernel_rfl) (by kernel_rfl) (by kernel_rfl) rfl (fun W hW => exec_indexAddr rfl rfl rfl (ia_keys _ _ _ _ _ hlt W)) (by assumption) ?_
                  simp only [Act.put, List.setIfInBounds_toArray, List.set_cons_zero, List.set_cons_succ]
                  refine take 4 56 (v := .string (strB s1)) rfl rfl (by kernel_rfl) (by kernel_rfl) (by kernel_rfl) rfl (fun W hW => exec_load rfl rfl (run_load1 (w := W) Tryz.underlying9 rfl hW.one)) (by assumption) ?_
                  simp only [Act.put, List.setIfInBounds_toArray, List.set_cons_zero, List.set_cons_succ]
                  refine take 5 57 (v := .pointer (some ⟨w.heap.size + 1, 4, none⟩)) rfl rfl (by kernel_rfl) (by kernel_rfl) (by kernel_rfl) rfl (fun W hW => exec_fieldAddr rfl rfl (fa_value _ _ (by decide) W)) (by assumption) ?_
                  simp only [Act.put, List.setIfInBounds_toArray, List.set_cons_zero, List.set_cons_succ]
                  refine take 6 58 (v := .slice (some ⟨b2, o2, none⟩) ks'.length ck') rfl rfl (by kernel_rfl) (by kernel_rfl) (by kernel_rfl) rfl (fun W hW => exec_load rfl rfl (run_load1 (w := W) Tryz.underlying23 rfl (cellOf hW.two.2.1 rfl))) (by assumption) ?_
                  simp only [Act.put, List.setIfInBounds_toArray, List.set_cons_zero, List.set_cons_succ]
                  refine take 7 59 (v := .int .i64 (j : Int)) rfl rfl (by kernel_rfl) (by kernel_rfl) (by kernel_rfl) rfl (fun W hW => exec_move rfl rfl) (by assumption) ?_
                  simp only [Act.put, List.setIfInBounds_toArray, List.set_cons_zero, List.set_cons_succ]
                  refine take 8 60 (v := .pointer (some ⟨b2, o2 + j, none⟩)) rfl rfl (by kernel_rfl) (by kernel_rfl) (by kernel_rfl) rfl (fun W hW => exec_indexAddr rfl rfl rfl (ia_keys _ _ _ _ _ hlt2 W)) (by assumption) ?_
                  simp only [Act.put, List.setIfInBounds_toArray, List.set_cons_zero, List.set_cons_succ]
                  refine take 9 61 (v := .string (strB s1)) rfl rfl (by kernel_rfl) (by kernel_rfl) (by kernel_rfl) rfl (fun W hW => exec_load rfl rfl (run_load1 (w := W) Tryz.underlying9 rfl hW.sec)) (by assumption) ?_
                  simp only [Act.put, List.setIfInBounds_toArray, List.set_cons_zero, List.set_cons_succ]
                  refine take 10 62 (v := .bool false) rfl rfl (by kernel_rfl) (by kernel_rfl) (by kernel_rfl) rfl (fun W hW => exec_bins rfl rfl rfl (hne W)) (by assumption) ?_
                  simp only [Act.put, List.setIfInBounds_toArray, List.set_cons_zero, List.set_cons_succ]
                  refine done (by kernel_rfl) ?_ _
                  have HT0 := Lib.hid hU.two
                  have c4 := cellOf (o := 4) hU.two.1 rfl
                  have q4 := cellOf (o := 4) hU.two.2.1 rfl
                  clear hU hU0 hne HQ
                  go_wp2
                  go_roundw
                  case rel => exact ⟨j + 1, by omega, by omega, by go_num, HE, HT0⟩
                  case measure => simp [intOf]; omega
                · have hne : ∀ W, (binOp .neq 9 (.string (strB s1)) (.string (strB s2))).run Tryz.prog W = .ok (.bool true) W := fun W => by rw [run_neStr]; simpa using e
                  have hz : cmpB s1 s2 ≠ 0 := fun h => e (cmpB_zero h)
                  have hE : cmpL cmpB ks ks' = cmpB s1 s2 := HQ.out.trans (by rw [HD.out.1, if_pos hz])
                  have hF : cmpB s1 s2 = R := by
                    have h := HR.out
                    rw [hE, orI_pos _ hz] at h
                    exact h
                  have HF := Lib.hid hF
                  clear hz hE hF e
                  refine plain_region_draws (fun W => KeyTwo w #[.int .i64 5, .bool b, .int .i64 n, .string (strB t), .slice (some ⟨b1, o1, none⟩) ks.length ck, .slice pl l.length cl] #[.int .i64 5, .bool b', .int .i64 n', .string (strB t'), .slice (some ⟨b2, o2, none⟩) ks'.length ck', .slice pl' l'.length cl'] b1 (o1 + j) b2 (o2 + j) s1 s2 W) (by kernel_rfl) hU0 (fun hU => ?_)
                  refine take 0 52 (v := .pointer (some ⟨w.heap.size, 4, none⟩)) rfl rfl (by kernel_rfl) (by kernel_rfl) (by kernel_rfl) rfl (fun W hW => exec_fieldAddr rfl rfl (fa_value _ _ (by decide) W)) (by assumption) ?_
                  simp only [Act.put, List.setIfInBounds_toArray, List.set_cons_zero, List.set_cons_succ]
                  refine take 1 53 (v := .slice (some ⟨b1, o1, none⟩) ks.length ck) rfl rfl (by kernel_rfl) (by kernel_rfl) (by kernel_rfl) rfl (fun W hW => exec_load rfl rfl (run_load1 (w := W) Tryz.underlying23 rfl (cellOf hW.two.1 rfl))) (by assumption) ?_
                  simp only [Act.put, List.setIfInBounds_toArray, List.set_cons_zero, List.set_cons_succ]
                  refine take 2 54 (v := .int .i64 (j : Int)) rfl rfl (by kernel_rfl) (by kernel_rfl) (by kernel_rfl) rfl (fun W hW => exec_move rfl rfl) (by assumption) ?_
                  simp only [Act.put, List.setIfInBounds_toArray, List.set_cons_zero, List.set_cons_succ]
                  refine take 3 55 (v := .pointer (some ⟨b1, o1 + j, none⟩)) rfl rfl (by kernel_rfl) (by kernel_rfl) (by kernel_rfl) rfl (fun W hW => exec_indexAddr rfl rfl rfl (ia_keys _ _ _ _ _ hlt W)) (by assumption) ?_
                  simp only [Act.put, List.setIfInBounds_toArray, List.set_cons_zero, List.set_cons_succ]
                  refine take 4 56 (v := .string (strB s1)) rfl rfl (by kernel_rfl) (by kernel_rfl) (by kernel_rfl) rfl (fun W hW => exec_load rfl rfl (run_load1 (w := W) Tryz.underlying9 rfl hW.one)) (by assumption) ?_
                  simp only [Act.put, List.setIfInBounds_toArray, List.set_cons_zero, List.set_cons_succ]
                  refine take 5 57 (v := .pointer (some ⟨w.heap.size + 1, 4, none⟩)) rfl rfl (by kernel_rfl) (by kernel_rfl) (by kernel_rfl) rfl (fun W hW => exec_fieldAddr rfl rfl (fa_value _ _ (by decide) W)) (by assumption) ?_
                  simp only [Act.put, List.setIfInBounds_toArray, List.set_cons_zero, List.set_cons_succ]
                  refine take 6 58 (v := .slice (some ⟨b2, o2, none⟩) ks'.length ck') rfl rfl (by kernel_rfl) (by kernel_rfl) (by kernel_rfl) rfl (fun W hW => exec_load rfl rfl (run_load1 (w := W) Tryz.underlying23 rfl (cellOf hW.two.2.1 rfl))) (by assumption) ?_
                  simp only [Act.put, List.setIfInBounds_toArray, List.set_cons_zero, List.set_cons_succ]
                  refine take 7 59 (v := .int .i64 (j : Int)) rfl rfl (by kernel_rfl) (by kernel_rfl) (by kernel_rfl) rfl (fun W hW => exec_move rfl rfl) (by assumption) ?_
                  simp only [Act.put, List.setIfInBounds_toArray, List.set_cons_zero, List.set_cons_succ]
                  refine take 8 60 (v := .pointer (some ⟨b2, o2 + j, none⟩)) rfl rfl (by kernel_rfl) (by kernel_rfl) (by kernel_rfl) rfl (fun W hW => exec_indexAddr rfl rfl rfl (ia_keys _ _ _ _ _ hlt2 W)) (by assumption) ?_
                  simp only [Act.put, List.setIfInBounds_toArray, List.set_cons_zero, List.set_cons_succ]
                  refine take 9 61 (v := .string (strB s2)) rfl rfl (by kernel_rfl) (by kernel_rfl) (by kernel_rfl) rfl (fun W hW => exec_load rfl rfl (run_load1 (w := W) Tryz.underlying9 rfl hW.sec)) (by assumption) ?_
                  simp only [Act.put, List.setIfInBounds_toArray, List.set_cons_zero, List.set_cons_succ]
                  refine take 10 62 (v := .bool true) rfl rfl (by kernel_rfl) (by kernel_rfl) (by kernel_rfl) rfl (fun W hW => exec_bins rfl rfl rfl (hne W)) (by assumption) ?_
                  simp only [Act.put, List.setIfInBounds_toArray, List.set_cons_zero, List.set_cons_succ]
                  refine done (by kernel_rfl) ?_ _
                  clear hU0 hne
                  go_wp2
                  have hU1 := hU.keep (show Below _ _ _ from (Below.refl _ _).drew)
                  clear hU
                  refine plain_region_draws (fun W => KeyTwo w #[.int .i64 5, .bool b, .int .i64 n, .string (strB t), .slice (some ⟨b1, o1, none⟩) ks.length ck, .slice pl l.length cl] #[.int .i64 5, .bool b', .int .i64 n', .string (strB t'), .slice (some ⟨b2, o2, none⟩) ks'.length ck', .slice pl' l'.length cl'] b1 (o1 + j) b2 (o2 + j) s1 s2 W) (by kernel_rfl) hU1 (fun hU => ?_)
                  refine take 0 63 (v := .pointer (some ⟨w.heap.size, 4, none⟩)) rfl rfl (by kernel_rfl) (by kernel_rfl) (by kernel_rfl) rfl (fun W hW => exec_fieldAddr rfl rfl (fa_value _ _ (by decide) W)) (by assumption) ?_
                  simp only [Act.put, List.setIfInBounds_toArray, List.set_cons_zero, List.set_cons_succ]
                  refine take 1 64 (v := .slice (some ⟨b1, o1, none⟩) ks.length ck) rfl rfl (by kernel_rfl) (by kernel_rfl) (by kernel_rfl) rfl (fun W hW => exec_load rfl rfl (run_load1 (w := W) Tryz.underlying23 rfl (cellOf hW.two.1 rfl))) (by assumption) ?_
                  simp only [Act.put, List.setIfInBounds_toArray, List.set_cons_zero, List.set_cons_succ]
                  refine take 2 65 (v := .int .i64 (j : Int)) rfl rfl (by kernel_rfl) (by kernel_rfl) (by kernel_rfl) rfl (fun W hW => exec_move rfl rfl) (by assumption) ?_
                  simp only [Act.put, List.setIfInBounds_toArray, List.set_cons_zero, List.set_cons_succ]
                  refine take 3 66 (v := .pointer (some ⟨b1, o1 + j, none⟩)) rfl rfl (by kernel_rfl) (by kernel_rfl) (by kernel_rfl) rfl (fun W hW => exec_indexAddr rfl rfl rfl (ia_keys _ _ _ _ _ hlt W)) (by assumption) ?_
                  simp only [Act.put, List.setIfInBounds_toArray, List.set_cons_zero, List.set_cons_succ]
                  refine take 4 67 (v := .string (strB s1)) rfl rfl (by kernel_rfl) (by kernel_rfl) (by kernel_rfl) rfl (fun W hW => exec_load rfl rfl (run_load1 (w := W) Tryz.underlying9 rfl hW.one)) (by assumption) ?_
                  simp only [Act.put, List.setIfInBounds_toArray, List.set_cons_zero, List.set_cons_succ]
                  refine take 5 68 (v := .pointer (some ⟨w.heap.size + 1, 4, none⟩)) rfl rfl (by kernel_rfl) (by kernel_rfl) (by kernel_rfl) rfl (fun W hW => exec_fieldAddr rfl rfl (fa_value _ _ (by decide) W)) (by assumption) ?_
                  simp only [Act.put, List.setIfInBounds_toArray, List.set_cons_zero, List.set_cons_succ]
                  refine take 6 69 (v := .slice (some ⟨b2, o2, none⟩) ks'.length ck') rfl rfl (by kernel_rfl) (by kernel_rfl) (by kernel_rfl) rfl (fun W hW => exec_load rfl rfl (run_load1 (w := W) Tryz.underlying23 rfl (cellOf hW.two.2.1 rfl))) (by assumption) ?_
                  simp only [Act.put, List.setIfInBounds_toArray, List.set_cons_zero, List.set_cons_succ]
                  refine take 7 70 (v := .int .i64 (j : Int)) rfl rfl (by kernel_rfl) (by kernel_rfl) (by kernel_rfl) rfl (fun W hW => exec_move rfl rfl) (by assumption) ?_
                  simp only [Act.put, List.setIfInBounds_toArray, List.set_cons_zero, List.set_cons_succ]
                  refine take 8 71 (v := .pointer (some ⟨b2, o2 + j, none⟩)) rfl rfl (by kernel_rfl) (by kernel_rfl) (by kernel_rfl) rfl (fun W hW => exec_indexAddr rfl rfl rfl (ia_keys _ _ _ _ _ hlt2 W)) (by assumption) ?_
                  simp only [Act.put, List.setIfInBounds_toArray, List.set_cons_zero, List.set_cons_succ]
                  refine take 9 72 (v := .string (strB s2)) rfl rfl (by kernel_rfl) (by kernel_rfl) (by kernel_rfl) rfl (fun W hW => exec_load rfl rfl (run_load1 (w := W) Tryz.underlying9 rfl hW.sec)) (by assumption) ?_
                  simp only [Act.put, List.setIfInBounds_toArray, List.set_cons_zero, List.set_cons_succ]
                  refine onlyCall 10 73 rfl rfl (by kernel_rfl) rfl (exec_call [.string (strB s1), .string (strB s2)] rfl rfl Tryz.func61 (by kernel_rfl) (by kernel_rfl)) ?_
                  refine (HD.out.2 _).mono ?_
                  rintro e w5 ⟨rfl, hb5⟩
                  have hU2 := hU.keep hb5
                  clear hb5
                  refine ⟨_, rfl, .inr hU2, ?_⟩
                  simp only [Act.put, List.setIfInBounds_toArray, List.set_cons_zero, List.set_cons_succ]
                  refine take 11 4 (v := .int .i64 (cmpB s1 s2)) rfl rfl (by kernel_rfl) (by kernel_rfl) (by kernel_rfl) rfl (fun W hW => exec_assign rfl rfl) (by assumption) ?_
                  simp only [Act.put, List.setIfInBounds_toArray, List.set_cons_zero, List.set_cons_succ]
                  refine done (by kernel_rfl) ?_ _
                  have HB := Lib.hid hU2.two.2.2
                  clear hU1 hU hU2
                  go_wp2
                  go_ret
                  exact ⟨ret_int HF.out, HB.out⟩
              · have hE := HQ.out.trans (cmpL_over cmpB hlt (by omega))
                have hci : cmpI (ks.length : Int) (ks'.length : Int) = 1 := by unfold cmpI; rw [if_neg (by omega), if_pos (by omega)]
                have hne : ((ks.length : Int) != (ks'.length : Int)) = true := by simp; omega
                have hF : (1 : Int) = R := by
                  have h := HR.out
                  rw [hE, orI_pos _ (by decide)] at h
                  exact h
                have HF := Lib.hid hF
                clear hE hF hT1
                go_wp2_with (go_at_call 59; refine (ints_any _ _ _).mono ?_; rintro e w' ⟨rfl, rfl⟩)
                go_ret
                exact ⟨ret_int HF.out, HT.out.2.2⟩
            · by_cases hlt2 : j < ks'.length
              · have hE := HQ.out.trans (cmpL_under cmpB (by omega) hlt2)
                have hci : cmpI (ks.length : Int) (ks'.length : Int) = -1 := by unfold cmpI; rw [if_pos (by omega)]
                have hne : ((ks.length : Int) != (ks'.length : Int)) = true := by simp; omega
                have hF : (-1 : Int) = R := by
                  have h := HR.out
                  rw [hE, orI_pos _ (by decide)] at h
                  exact h
                have HF := Lib.hid hF
                clear hE hF hT1
                go_wp2_with (go_at_call 59; refine (ints_any _ _ _).mono ?_; rintro e w' ⟨rfl, rfl⟩)
                go_ret
                exact ⟨ret_int HF.out, HT.out.2.2⟩
              · have hE := HQ.out.trans (cmpL_out cmpB (by omega) (by omega))
                have hne : ((ks.length : Int) != (ks'.length : Int)) = false := by simp; omega
                have hF : cmpL cmpV l l' = R := by
                  have h := HR.out
                  rw [hE, orI_zero_left] at h
                  exact h
                have HF := Lib.hid hF
                clear hE hF hT1
                go_wp2_with (go_at_call 47; refine (HRW.out _ HT.out.2.2).mono ?_; rintro e w3 ⟨rfl, hb3⟩; have HB := Lib.hid (below_trans HT.out.2.2 hb3); clear hb3)
                go_ret
                exact ⟨ret_int HF.out, HB.out⟩
        · by_cases e4 : k = 4
          · subst e4
            rw [hn (.inl rfl), hn' (.inl rfl), hks (by decide), hks' (by decide), show cmpI 0 0 = 0 from rfl, orI_zero_right, show cmpL cmpB [] [] = 0 from rfl, orI_zero_left] at hR
            have HR := Lib.hid hR
            clear hks hks' hls hls' lo hi lo' hi' e1 e3 e5 hn hn' hR
            go_enter Tryz.func19, Tryz.ntmps19
            go_wp2_with (go_at_call 47; refine (HRW.out _ HT.out.2.2).mono ?_; rintro e w3 ⟨rfl, hb3⟩; have HB := Lib.hid (below_trans HT.out.2.2 hb3); clear hb3)
            go_ret
            exact ⟨ret_int HR.out, HB.out⟩
          · have d1 : (k == 1) = false := by simpa using e1
            have d3 : (k == 3) = false := by simpa using e3
            have d4 : (k == 4) = false := by simpa using e4
            have d5 : (k == 5) = false := by simpa using e5
            rw [hks e5, hks' e5, hls e4 e5, hls' e4 e5, show cmpL cmpV [] [] = 0 from rfl, orI_zero_left, show cmpL cmpB [] [] = 0 from rfl, orI_zero_left] at hR
            have HR := Lib.hid hR
            clear hks hks' hls hls' lo hi lo' hi' e1 e3 e5 e4 hn hn' hR
            go_enter Tryz.func19, Tryz.ntmps19
            go_wp2_with (go_at_call 59; refine (ints_any _ _ _).mono ?_; rintro e w' ⟨rfl, rfl⟩)
            go_ret
            exact ⟨ret_int HR.out, HT.out.2.2⟩
  · have dk : (k != k') = true := by simpa using hkk
    have hz : cmpI (rankV k) (rankV k') ≠ 0 := fun h => hkk (hinj (cmpI_zero h))
    have HR := Lib.hid (hrank hz).symm
    have HN := Lib.hid (And.intro (And.intro lo hi) (And.intro lo' hi'))
    have hU0 := HT.out.below (Below.refl _ _).drew
    clear hbool htext hrest hrank hinj hkk hz hks hks' hls hls' hn hn' lo hi lo' hi'
    go_enter Tryz.func19, Tryz.ntmps19
    go_wp2
    refine plain_region_draws (fun W => TwoV w W #[.int .i64 k, .bool b, .int .i64 n, .string (strB t), .slice pk ks.length ck, .slice pl l.length cl] #[.int .i64 k', .bool b', .int .i64 n', .string (strB t'), .slice pk' ks'.length ck', .slice pl' l'.length cl']) (by kernel_rfl) hU0 (fun hU => ?_)
    refine take 0 11 (v := .pointer (some ⟨w.heap.size, 0, none⟩)) rfl rfl (by kernel_rfl) (by kernel_rfl) (by kernel_rfl) rfl (fun W hW => exec_fieldAddr rfl rfl (fa_value _ _ (by decide) W)) (by assumption) ?_
    simp only [Act.put, List.setIfInBounds_toArray, List.set_cons_zero, List.set_cons_succ]
    refine take 1 12 (v := .int .i64 k) rfl rfl (by kernel_rfl) (by kernel_rfl) (by kernel_rfl) rfl (fun W hW => exec_load rfl rfl (run_load1 (w := W) Tryz.underlying22 rfl (cellOf hW.1 rfl))) (by assumption) ?_
    simp only [Act.put, List.setIfInBounds_toArray, List.set_cons_zero, List.set_cons_succ]
    refine take 3 14 (v := .pointer (some ⟨w.heap.size + 1, 0, none⟩)) rfl rfl (by kernel_rfl) (by kernel_rfl) (by kernel_rfl) rfl (fun W hW => exec_fieldAddr rfl rfl (fa_value _ _ (by decide) W)) (by assumption) ?_
    simp only [Act.put, List.setIfInBounds_toArray, List.set_cons_zero, List.set_cons_succ]
    refine take 4 15 (v := .int .i64 k') rfl rfl (by kernel_rfl) (by kernel_rfl) (by kernel_rfl) rfl (fun W hW => exec_load rfl rfl (run_load1 (w := W) Tryz.underlying22 rfl (cellOf hW.2.1 rfl))) (by assumption) ?_
    simp only [Act.put, List.setIfInBounds_toArray, List.set_cons_zero, List.set_cons_succ]
    refine onlyCall 2 13 rfl rfl (by kernel_rfl) rfl (exec_call [.int .i64 k] rfl rfl Tryz.func60 (by kernel_rfl) (by kernel_rfl)) ?_
    refine (rankR_any _ HN.out.1.1 HN.out.1.2 _).mono ?_
    rintro e w5 ⟨rfl, hb5⟩
    have hU1 := hU.below hb5
    clear hb5
    refine ⟨_, rfl, .inr hU1, ?_⟩
    simp only [Act.put, List.setIfInBounds_toArray, List.set_cons_zero, List.set_cons_succ]
    refine onlyCall 5 16 rfl rfl (by kernel_rfl) rfl (exec_call [.int .i64 k'] rfl rfl Tryz.func60 (by kernel_rfl) (by kernel_rfl)) ?_
    refine (rankR_any _ HN.out.2.1 HN.out.2.2 _).mono ?_
    rintro e w5 ⟨rfl, hb5⟩
    have hU2 := hU1.below hb5
    clear hb5
    refine ⟨_, rfl, .inr hU2, ?_⟩
    simp only [Act.put, List.setIfInBounds_toArray, List.set_cons_zero, List.set_cons_succ]
    refine onlyCall 6 17 rfl rfl (by kernel_rfl) rfl (exec_call [.int .i64 (rankV k), .int .i64 (rankV k')] rfl rfl Tryz.func59 (by kernel_rfl) (by kernel_rfl)) ?_
    refine (ints_any _ _ _).mono ?_
    rintro e w' ⟨rfl, rfl⟩
    refine ⟨_, rfl, .inr (by assumption), ?_⟩
    simp only [Act.put, List.setIfInBounds_toArray, List.set_cons_zero, List.set_cons_succ]
    refine take 7 4 (v := .int .i64 (cmpI (rankV k) (rankV k'))) rfl rfl (by kernel_rfl) (by kernel_rfl) (by kernel_rfl) rfl (fun W hW => exec_assign rfl rfl) (by assumption) ?_
    simp only [Act.put, List.setIfInBounds_toArray, List.set_cons_zero, List.set_cons_succ]
    refine done (by kernel_rfl) ?_ _
    have HB := Lib.hid hU2.2.2
    clear hU hU0 hU1 hU2 c0 c1 c2 c3 c4 c5 q0 q1 q2 q3 q4 q5
    go_wp2
    go_ret
    exact ⟨ret_int HR.out, HB.out⟩
end Go.Proofs.YtnkaegdnjfpliaaGreatDoor
