/- Scripts of steps; DiskSame's walk. Printed by gen_dsame.py. -/
import Derived.Test.YtmgajgeoibbmjaaAlikew
namespace Go.Proofs.Ytmgajgeoibbmjaa
open Go.RowKit

theorem exec_binbb {P : Program} {a : Act} {w : World} {o : Oper} {op : BinOp} {t t' : TypeId} {x y : Operand} {n m : Bool} {v : Value} (ho : o.op = .binOp op t x y t') (hx : a.eval x = .bool n) (hy : a.eval y = .bool m)
    (hr : (binOp op t (.bool n) (.bool m)).run P w = .ok v w) : (execOp a.eval o).run P w = .ok (.value v) w := by
  unfold execOp; rw [ho]; simp only [hx, hy]
  have e : eqGuard op t x y (.bool n) (.bool m) = pure () := by unfold eqGuard; cases op <;> rfl
  simp only [e, Sem.run_bind, Sem.run_pure, Result.andThen_ok, hr]

/-- A step of a script, and what it reads as. -/
structure StpM where
  kd : Int
  at_ : Int
  num : Int
  q2 : Option Addr
  m2 : Nat
  c2 : Nat
  q : Option Addr
  m : Nat
  c : Nat
  bs : List UInt8
  ks : List Int
def StpM.sz (s : StpM) : Int × Nat × Nat := (s.num, s.m2, s.m)
/-- A script lies at a slice. -/
def ScrAt (w : World) (v : Value) (ss : List StpM) : Prop :=
  ∃ a c, v = .slice a ss.length c ∧ (a = none → ss = []) ∧ ∀ ad, a = some ad → ad.spot = none ∧ ∀ (i : Nat) (s : StpM), ss[i]? = some s →
    w.cell? ⟨ad.block, ad.off + i * 5, none⟩ = some (.int .i64 s.kd) ∧ w.cell? ⟨ad.block, ad.off + i * 5 + 1, none⟩ = some (.int .i64 s.at_) ∧ w.cell? ⟨ad.block, ad.off + i * 5 + 2, none⟩ = some (.int .i64 s.num) ∧
    w.cell? ⟨ad.block, ad.off + i * 5 + 3, none⟩ = some (.slice s.q2 s.m2 s.c2) ∧ w.cell? ⟨ad.block, ad.off + i * 5 + 4, none⟩ = some (.slice s.q s.m s.c) ∧
    RdB w (.slice s.q2 s.m2 s.c2) s.bs ∧ RdI w (.slice s.q s.m s.c) s.ks ∧ (s.q = none → s.c = 0)
theorem ScrAt.below {w w' : World} {v : Value} {ss : List StpM} (h : ScrAt w v ss) (g : Below w.heap.size w w') : ScrAt w' v ss := by
  obtain ⟨a, c, rfl, h1, h2⟩ := h
  refine ⟨a, c, rfl, h1, fun ad had => ⟨(h2 ad had).1, fun i s hs => ?_⟩⟩
  obtain ⟨k0, k1, k2, k3, k4, k5, k6, k7⟩ := (h2 ad had).2 i s hs
  exact ⟨belowCell g (ltOf k0) k0, belowCell g (ltOf k1) k1, belowCell g (ltOf k2) k2, belowCell g (ltOf k3) k3, belowCell g (ltOf k4) k4, k5.below g, k6.below g, k7⟩
theorem ScrAt.steps {w : World} {v : Value} {ss : List StpM} (h : ScrAt w v ss) : StepsD w v (ss.map StpM.sz) := by
  obtain ⟨a, c, rfl, h1, h2⟩ := h
  refine ⟨a, c, by rw [List.length_map], fun e => by rw [h1 e]; rfl, fun ad had => ⟨(h2 ad had).1, fun i p hp => ?_⟩⟩
  rw [List.getElem?_map] at hp
  cases hs : ss[i]? with
  | none => rw [hs] at hp; cases hp
  | some s =>
    rw [hs] at hp
    cases hp
    obtain ⟨k0, k1, k2, k3, k4, k5, k6, k7⟩ := (h2 ad had).2 i s hs
    exact ⟨s.q2, s.c2, s.q, s.c, k2, k3, k4⟩
/-- Where what a slice reads as lies, if it reads as something. -/
theorem RdB.old {w : World} {p : Option Addr} {n c : Nat} {l : List UInt8} (h : RdB w (.slice p n c) l) (hl : l ≠ []) : ∀ g, (Value.slice p n c).ownBlock = some g → g < w.heap.size := by
  obtain ⟨b, r, rfl⟩ := List.exists_cons_of_ne_nil hl
  obtain ⟨a, cap, heq, h1, h2⟩ := h
  cases heq
  intro g hg
  cases p with
  | none => cases hg
  | some ad =>
    have := ltOf ((h2 ad rfl).2 0 b rfl)
    cases hg
    exact this
theorem RdI.old {w : World} {p : Option Addr} {n c : Nat} {l : List Int} (h : RdI w (.slice p n c) l) (hl : l ≠ []) : ∀ g, (Value.slice p n c).ownBlock = some g → g < w.heap.size := by
  intro g hg
  cases p with
  | none => cases hg
  | some ad =>
    have := RdI.lt h hl ad rfl
    cases hg
    exact this
/-- A step of a script is one that a disk can be asked, whose blocks all lie from w0 on. -/
theorem step_val {w0 w : World} {G : Nat → Prop} {s : StpM} (h1 : RdB w0 (.slice s.q2 s.m2 s.c2) s.bs) (h2 : RdI w0 (.slice s.q s.m s.c) s.ks) (h3 : s.q = none → s.c = 0) (g : Below w0.heap.size w0 w) (hG : ∀ x, G x → w0.heap.size ≤ x) (hb : s.bs.length ≤ 1000000) (hk : s.ks.length ≤ 1000) :
    StepV w s.q2 s.m2 s.c2 s.q s.m s.c s.bs s.ks G :=
  ⟨h1.below g, h2.below g, hb, hk, h3, fun hne x hx hg => by have := h1.old hne x hx; have := hG x hg; omega, fun hne x hx hg => by have := h2.old hne x hx; have := hG x hg; omega⟩

/-- The document's disk as it begins. -/
theorem ref_start {W : World} {r L cL S cS Q cQ n : Nat} (hb : W.heap[r]? = some (.cells #[.slice (some ⟨L, 0, none⟩) n cL, .slice (some ⟨S, 0, none⟩) n cS, .slice (some ⟨Q, 0, none⟩) n cQ, .slice none 0 0, .int .i64 0] 33 (0, 0)))
    (hL : RowAt W L cL 9 (List.replicate n (strV zblk))) (hS : RowAt W S cS 9 (List.replicate n (strV zblk))) (hQ : RowAt W Q cQ 29 (List.replicate n (.slice none 0 0))) (hnd : [r, L, S, Q].Nodup) :
    RefAt W (fun b => b ∈ [r, L, S, Q]) r (DM.new n) [] (.slice none 0 0) L cL S cS Q cQ (List.replicate n (.slice none 0 0)) := by
  have e : (lst n (fun _ : Int => (none : Option (List UInt8))) zblk).map strV = List.replicate n (strV zblk) := by
    unfold lst
    rw [List.map_map]
    apply List.ext_getElem?
    intro i
    simp only [List.getElem?_map, List.getElem?_replicate, List.getElem?_range]
    by_cases h : i < n <;> simp [h, List.getElem?_range]
  refine ⟨hb, ?_, ?_, hQ, by rw [List.length_replicate]; rfl, fun i q hq => ?_, World.ownsRow_nil _ _ _ _, fun b h => (by cases h), hnd, fun b hb => hb, fun k => rfl⟩
  · rw [show (lst (DM.new n).size (DM.new n).lasting zblk).map strV = _ from e]; exact hL
  · rw [show (lst (DM.new n).size (DM.new n).seen zblk).map strV = _ from e]; exact hS
  · obtain rfl : q = .slice none 0 0 := by
      rw [List.getElem?_replicate] at hq
      split at hq
      · exact (Option.some.inj hq).symm
      · cases hq
    exact ⟨World.ownsRow_nil _ _ _ _, fun b h => (by cases h)⟩

/-- Two pairs of disks, behind k and k2 steps. -/
def TwoI (w wr : World) (n k k2 a b r s : Nat) : Prop := ∃ d d' F F' N N' G G', Pair wr a r d F N G ∧ Pair wr b s d' F' N' G' ∧ (∀ x, G x → ¬ G' x) ∧ (∀ x, G x ∨ G' x → w.heap.size ≤ x) ∧ d.size = n ∧ d'.size = n ∧ d.steps ≤ k ∧ d'.steps ≤ k2 ∧
  F.length ≤ 30 * k ∧ F'.length ≤ 30 * k2 ∧ N ≤ 30 * k ∧ N' ≤ 30 * k2 ∧ Below w.heap.size w wr
theorem TwoI.below {w wr : World} {n k k2 a b r s : Nat} (h : TwoI w wr n k k2 a b r s) : Below w.heap.size w wr := by
  obtain ⟨_, _, _, _, _, _, _, _, _, _, _, _, _, _, _, _, _, _, _, _, h⟩ := h; exact h
theorem TwoI.symm {w wr : World} {n k k2 a b r s : Nat} (h : TwoI w wr n k k2 a b r s) : TwoI w wr n k2 k b a s r := by
  obtain ⟨d, d', F, F', N, N', G, G', h1, h2, h3, h4, h5, h6, h7, h8, h9, h10, h11, h12, h13⟩ := h
  exact ⟨d', d, F', F, N', N, G', G, h2, h1, fun x hx hy => h3 x hy hx, fun x hx => h4 x hx.symm, h6, h5, h8, h7, h10, h9, h12, h11, h13⟩
/-- A step on the first of both. -/
theorem TwoI.does {w wr : World} {n k k2 a b r s : Nat} (h : TwoI w wr n k k2 a b r s) (hk : k ≤ 100) (st : StpM) (h1 : RdB w (.slice st.q2 st.m2 st.c2) st.bs) (h2 : RdI w (.slice st.q st.m st.c) st.ks) (h3 : st.q = none → st.c = 0) (hb : st.bs.length ≤ 1000000) (hks : st.ks.length ≤ 30) :
    Calls Try.prog 10 #[.pointer (some ⟨a, 0, none⟩), .pointer (some ⟨r, 0, none⟩), .agg #[.int .i64 st.kd, .int .i64 st.at_, .int .i64 st.num, .slice st.q2 st.m2 st.c2, .slice st.q st.m st.c]] wr fun e w' => e = .returned (.bool true) ∧ TwoI w w' n (k + 1) k2 a b r s := by
  obtain ⟨d, d', F, F', N, N', G, G', g1, g2, g3, g4, g5, g6, g7, g8, g9, g10, g11, g12, g13⟩ := h
  refine (does_any g1 (by omega) (by omega) (by omega) st.kd st.at_ st.num _ _ _ _ _ _ _ (step_val h1 h2 h3 g13 (fun x hx => g4 x (.inl hx)) hb (by omega))).mono ?_
  rintro e w' ⟨rfl, d1, F1, G1, j1, j2, j3, j4, j5, j6⟩
  have hG : ∀ x, G' x → ¬ G x := fun x hx hy => g3 x hy hx
  refine ⟨rfl, d1, d', F1, F', _, N', G1, G', j1, g2.touch j6 hG, fun x hx hy => ?_, fun x hx => ?_, by omega, g6, by omega, g8, by omega, g10, by omega, g12, j6.below g13 (fun b hb hg => by have := g4 b (.inl hg); omega) g13.size⟩
  · rcases j2 x hx with e | e
    · exact g3 x e hy
    · have := g2.lt x hy; omega
  · rcases hx with hx | hx
    · rcases j2 x hx with e | e
      · exact g4 x (.inl e)
      · have := g13.size; omega
    · exact g4 x (.inr hx)
/-- What the law asks of both at the end. -/
theorem TwoI.last {w wr : World} {n k k2 a b r s : Nat} (h : TwoI w wr n k k2 a b r s) (hk : k ≤ 100) (hk2 : k2 ≤ 100) :
    ∃ v C1 C2, Calls Try.prog 13 #[.pointer (some ⟨a, 0, none⟩), .pointer (some ⟨b, 0, none⟩)] wr (fun e w' => e = .returned (.bool v) ∧ Below wr.heap.size wr w') ∧
      (∀ W, Below wr.heap.size wr W → Calls Try.prog 13 #[.pointer (some ⟨a, 0, none⟩), .pointer (some ⟨b, 0, none⟩)] W (fun e w' => e = .returned (.bool v) ∧ Below W.heap.size W w')) ∧
      (∀ W, Below wr.heap.size wr W → Calls Try.prog 13 #[.pointer (some ⟨b, 0, none⟩), .pointer (some ⟨a, 0, none⟩)] W (fun e w' => e = .returned (.bool v) ∧ Below W.heap.size W w')) ∧
      (∀ W, Below wr.heap.size wr W → (loadVar 33 ⟨r, 0, none⟩).run Try.prog W = .ok (.agg C1) W) ∧ (∀ W, Below wr.heap.size wr W → (loadVar 33 ⟨s, 0, none⟩).run Try.prog W = .ok (.agg C2) W) ∧
      (∀ W, Below wr.heap.size wr W → Calls Try.prog 14 #[.agg C1, .agg C2] W (fun e w' => e = .returned (.bool v) ∧ Below W.heap.size W w')) := by
  obtain ⟨d, d', F, F', N, N', G, G', g1, g2, g3, g4, g5, g6, g7, g8, g9, g10, g11, g12, g13⟩ := h
  have get : ∀ W, Below wr.heap.size wr W → ∃ F1 F2 R1 R2, Disk W F1 a d ∧ Disk W F2 b d' ∧ Ref W R1 r d F ∧ Ref W R2 s d' F' := fun W g => by
    obtain ⟨F1, R1, a1, a2, _⟩ := (g1.below g).ex
    obtain ⟨F2, R2, b1, b2, _⟩ := (g2.below g).ex
    exact ⟨F1, F2, R1, R2, a1, b1, a2, b2⟩
  obtain ⟨F1, F2, R1, R2, _, _, ⟨X, L, cL, S, cS, Q, cQ, qs, hr⟩, ⟨X', L', cL', S', cS', Q', cQ', qs', hs⟩⟩ := get wr (Below.refl _ _)
  have few1 : FewF d := ⟨F, by omega, fun k hk => by rw [hr.agree] at hk; simpa using hk⟩
  have few2 : FewF d' := ⟨F', by omega, fun k hk => by rw [hs.agree] at hk; simpa using hk⟩
  have same1 : ∀ W, Below wr.heap.size wr W → Calls Try.prog 13 #[.pointer (some ⟨a, 0, none⟩), .pointer (some ⟨b, 0, none⟩)] W (fun e w' => e = .returned (.bool (sameB d d')) ∧ Below W.heap.size W w') := fun W g => by
    obtain ⟨F1, F2, R1, R2, x1, x2, _, _⟩ := get W g
    exact same_any x1 x2 (by omega) (by omega) few1 few2
  obtain ⟨px, cx, rfl, _⟩ := ownsX hr.fails
  obtain ⟨px', cx', rfl, _⟩ := ownsX hs.fails
  refine ⟨sameB d d', #[.slice (some ⟨L, 0, none⟩) d.size cL, .slice (some ⟨S, 0, none⟩) d.size cS, .slice (some ⟨Q, 0, none⟩) d.size cQ, .slice px F.length cx, .int .i64 (d.steps : Int)], #[.slice (some ⟨L', 0, none⟩) d'.size cL', .slice (some ⟨S', 0, none⟩) d'.size cS', .slice (some ⟨Q', 0, none⟩) d'.size cQ', .slice px' F'.length cx', .int .i64 (d'.steps : Int)], same1 wr (Below.refl _ _), same1, fun W g => ?_, fun W g => ?_, fun W g => ?_, fun W g => ?_⟩
  · obtain ⟨F1, F2, R1, R2, x1, x2, _, _⟩ := get W g
    rw [sameB_symm]
    exact same_any x2 x1 (by omega) (by omega) few2 few1
  · exact get_ref (belowBlk g (Array.getElem?_eq_some_iff.1 hr.box).1 hr.box)
  · exact get_ref (belowBlk g (Array.getElem?_eq_some_iff.1 hs.box).1 hs.box)
  · obtain ⟨F1, F2, R1, R2, x1, x2, _, _⟩ := get W g
    exact alike_any (hr.below g) (hs.below g) x1.1 x2.1 (by omega) (by omega) (by omega) (by omega) (by omega)
set_option maxRecDepth 100000 in
set_option maxHeartbeats 2000000 in
theorem dsame_known (n : Int) (v1 v2 : Value) (s1 s2 : List StpM) (w : World) (hs1 : ScrAt w v1 s1) (hs2 : ScrAt w v2 s2) (h : vastD n (s1.map StpM.sz) = true ∨ vastD n (s2.map StpM.sz) = true ∨ n < 1 ∨ 65536 < n) :
    Calls Try.prog 4 #[.int .i64 n, v1, v2] w fun e w' => e = .returned (.bool true) ∧ Below w.heap.size w w' := by
  have hv1 := vast_any n v1 _ w hs1.steps
  have hv2 := vast_any n v2 _ w hs2.steps
  obtain ⟨a1, c1, rfl, _⟩ := hs1
  obtain ⟨a2, c2, rfl, _⟩ := hs2
  have Hv1 := Lib.hid hv1
  have Hv2 := Lib.hid hv2
  have Hk := Lib.hid known_any
  clear hv1 hv2
  generalize hvb : vastD n (s1.map StpM.sz) = vb at *
  generalize hvc : vastD n (s2.map StpM.sz) = vc at *
  clear hvb hvc
  have hcases : vb = true ∨ (vb = false ∧ vc = true) ∨ (vb = false ∧ vc = false ∧ decide (n < 1) = true) ∨ (vb = false ∧ vc = false ∧ decide (n < 1) = false ∧ decide (n > 65536) = true) := by
    cases vb <;> cases vc <;> simp only [decide_eq_true_iff, decide_eq_false_iff_not] at * <;> simp at h ⊢ <;> omega
  clear h
  rcases hcases with rfl | ⟨rfl, rfl⟩ | ⟨rfl, rfl, k1⟩ | ⟨rfl, rfl, k1, k2⟩
  all_goals
    go_enter Try.func4, Try.ntmps4
    go_wp2_with (first
      | (go_at_call 6; ((with_reducible refine Hv1.out.mono ?_); rintro e w1 ⟨rfl, rfl⟩; clear Hv1))
      | (go_at_call 6; ((with_reducible refine Hv2.out.mono ?_); rintro e w1 ⟨rfl, rfl⟩))
      | (go_at_call 7; refine (Hk.out _).mono ?_; rintro e w2 ⟨rfl, hb⟩; have HB := Lib.hid hb; clear hb))
    go_ret
    exact ⟨rfl, HB.out⟩
end Go.Proofs.Ytmgajgeoibbmjaa
