/- Texts that the proof shares (each declaration is a lemma of this layer). -/
import Derived.Test.YthdfedfholmbmaaGreatDoorZCbda
import Derived.Test.YthdfedfholmbmaaGreatDoorZCbdb
import Derived.Test.YthdfedfholmbmaaGreatDoorZCbdc
import Derived.Recover
import Derived.Lib.Join
import Derived.Lib.ItoaNum
import Derived.Lib.Bytealg
import Derived.Lib.Small
import Derived.Lib.Replace
import Derived.Lib.SplitLaws
import Derived.Laws.MakeOwn
set_option linter.unusedSimpArgs false
set_option linter.unusedVariables false
set_option maxRecDepth 100000
set_option maxHeartbeats 64000000
namespace Go.Proofs.YthdfedfholmbmaaGreatDoor
open Go.RowKit
def rdInt : Dec Int := Dec.map toI (rdN 0 0)
theorem rdInt_none {l : List UInt8} (h : rdN 0 0 l = none) : rdInt l = none := map_n h
theorem rdInt_some {l s : List UInt8} {n : Nat} (h : rdN 0 0 l = some (n, s)) : rdInt l = some (toI n, s) := map_s h
theorem rdRel_eq (l : List UInt8) : rdRel l = match rdInt.rep 3 l with
 | none => none
 | some (xs, r) => match Ka4 r with
   | none => none
   | some (s, t) => match Kas Kdo t with
     | none => none
     | some (ps, u) => some (⟨xs.getD 0 0, xs.getD 1 0, xs.getD 2 0, s, ps⟩, u) := by
 unfold rdRel rdProps
 show Dec.map _ (Dec.seq rdInt (Dec.seq rdInt (Dec.seq rdInt (Dec.seq Ka4 (Kas Kdo))))) l = _
 cases h0 : rdInt l with
 | none =>
   have e : rdInt.rep 3 l = none := by simp [Dec.rep, h0]
   rw [e]; exact map_n (seq_n1 h0)
 | some p0 =>
   obtain ⟨a, r0⟩ := p0
   cases h1 : rdInt r0 with
   | none =>
     have e : rdInt.rep 3 l = none := by simp [Dec.rep, h0, h1]
     rw [e]; exact map_n (Kcm h0 (seq_n1 h1))
   | some p1 =>
     obtain ⟨b, r1⟩ := p1
     cases h2 : rdInt r1 with
     | none =>
       have e : rdInt.rep 3 l = none := by simp [Dec.rep, h0, h1, h2]
       rw [e]; exact map_n (Kcm h0 (Kcm h1 (seq_n1 h2)))
     | some p2 =>
       obtain ⟨c, r2⟩ := p2
       have e : rdInt.rep 3 l = some ([a, b, c], r2) := by simp [Dec.rep, h0, h1, h2]
       rw [e]
       simp only
       cases h3 : Ka4 r2 with
       | none => exact map_n (Kcm h0 (Kcm h1 (Kcm h2 (seq_n1 h3))))
       | some p3 =>
         obtain ⟨s, t⟩ := p3
         simp only
         cases h4 : Kas Kdo t with
         | none => exact map_n (Kcm h0 (Kcm h1 (Kcm h2 (Kcm h3 h4))))
         | some p4 =>
           obtain ⟨ps, u⟩ := p4
           exact map_s (seq_s h0 (seq_s h1 (seq_s h2 (seq_s h3 h4))))
theorem ia_three0 (b : Nat) (W : World) : (Instr.indexAt 148 (.pointer (some ⟨b, 0, none⟩)) (.int .i64 0)).run Tryz.prog W = .ok (.pointer (some ⟨b, 0, none⟩)) W := by simp [go_sem]
theorem ia_three1 (b : Nat) (W : World) : (Instr.indexAt 148 (.pointer (some ⟨b, 0, none⟩)) (.int .i64 1)).run Tryz.prog W = .ok (.pointer (some ⟨b, 1, none⟩)) W := by simp [go_sem]
theorem ia_three2 (b : Nat) (W : World) : (Instr.indexAt 148 (.pointer (some ⟨b, 0, none⟩)) (.int .i64 2)).run Tryz.prog W = .ok (.pointer (some ⟨b, 2, none⟩)) W := by simp [go_sem]
theorem exec_buildRel {a : Act} {w : World} {o : Oper} {x0 x1 x2 x3 x4 : Operand} {n0 n1 n2 : Int} {s : ByteArray} {p : Option Addr} {n c : Nat} (ho : o.op = .build 72 #[(0, x0), (1, x1), (2, x2), (3, x3), (4, x4)])
 (h0 : a.eval x0 = .int .i64 n0) (h1 : a.eval x1 = .int .i64 n1) (h2 : a.eval x2 = .int .i64 n2) (h3 : a.eval x3 = .string s) (h4 : a.eval x4 = .slice p n c) :
 (execOp a.eval o).run Tryz.prog w = .ok (.value (.agg #[.int .i64 n0, .int .i64 n1, .int .i64 n2, .string s, .slice p n c])) w := by
 unfold execOp; simp [ho, go_sem, h0, h1, h2, h3, h4, Act.eval] at h0 h1 h2 h3 h4 ⊢; simp [h0, h1, h2, h3, h4]
theorem exec_bound {P : Program} {a : Act} {w : World} {o : Oper} {fn : Fn} {x : Operand} {u : Value} (ho : o.op = .makeFunc fn #[x] #[]) (hx : a.eval x = u) : (execOp a.eval o).run P w = .ok (.value (.func fn #[u] #[])) w := by
 unfold execOp; rw [ho]; simp [hx]; rfl
abbrev arr3 (m : List Int) : Array Value := #[.int .i64 (m.getD 0 0), .int .i64 (m.getD 1 0), .int .i64 (m.getD 2 0)]
abbrev zeroR : Array Value := #[.int .i64 0, .int .i64 0, .int .i64 0, .string ⟨#[]⟩, .slice none 0 0]
structure RL (w W : World) (q : Nat) (l : List UInt8) (m : List Int) (W' : World) (l' : List UInt8) : Prop where
 st : RSt 141 w W' q l'
 tr : RTo q W W'
 p2 : W'.heap[W.heap.size]? = some (.cells zeroR 72 (0, 0))
 p3 : W'.heap[W.heap.size + 1]? = some (.cells (arr3 m) 148 (0, 0))
 rep : RepAt rdInt 3 l m l'
 len : l'.length ≤ l.length
theorem RL.next {w W W' W1 : World} {q : Nat} {l l' s : List UInt8} {m : List Int} {n : Nat} (hq : q < W.heap.size) (h : RL w W q l m W' l') (t : RTo q W' W1) (g : RSt 141 w W1 q s) (hr : rdN 0 0 l' = some (n, s)) (hm : m.length < 3) :
 (storeVar 2 ⟨W.heap.size + 1, m.length, none⟩ (.int .i64 (toI n))).run Tryz.prog W1 = .ok () (W1.setCell ⟨W.heap.size + 1, m.length, none⟩ (.int .i64 (toI n))) ∧ RL w W q l (m ++ [toI n]) (W1.setCell ⟨W.heap.size + 1, m.length, none⟩ (.int .i64 (toI n))) s := by
 have hl3 := (Array.getElem?_eq_some_iff.1 h.p3).1
 have h2 := (t.keep _ (by omega) (by omega)).trans h.p2
 have h3 := (t.keep _ hl3 (by omega)).trans h.p3
 have ho : ∀ b, b ≠ W.heap.size + 1 → (W1.setCell ⟨W.heap.size + 1, m.length, none⟩ (.int .i64 (toI n))).heap[b]? = W1.heap[b]? := fun b hb => Below.heap_setCell _ _ _ _ hb
 have hbase := g.base
 have hc : ∃ u, (arr3 m)[m.length]? = some u := ⟨_, Array.getElem?_eq_getElem (by show m.length < 3; exact hm)⟩
 obtain ⟨u, hu⟩ := hc
 refine ⟨Kc6 (Kab h3 hu) (Kav h3), ⟨g.other (Kbf g.b (by omega) _) (ho q (by omega)), ⟨by have := (h.tr.trans t).size; simp [World.setCell]; omega, fun b hb hqb => (ho b (by omega)).trans ((h.tr.trans t).keep b hb hqb)⟩, (ho _ (by omega)).trans h2, ?_, h.rep.step hm (rdInt_some hr), ?_⟩⟩
 ·have := Kcw (k := m.length) (.int .i64 (toI n)) h3
  rw [this]
  match m, hm with
  | [], _ => rfl
  | [a], _ => rfl
  | [a, b], _ => rfl
 ·have := rdN_le hr
  have := h.len
  omega
theorem rrel_any {w W : World} {q : Nat} {l : List UInt8} (h : RSt 141 w W q l) (hl : l.length ≤ 1000000) :
 Calls Tryz.prog 54 #[.pointer (some ⟨q, 0, none⟩)] W (Reads w W q (rdRel l) (okRel W)) := by
 have hq := h.lt
 have hb : Below W.heap.size W ((W.alloc (.cells #[.int .i64 0, .int .i64 0, .int .i64 0, .string ⟨#[]⟩, .slice none 0 0] 72)).alloc (.cells #[.int .i64 0, .int .i64 0, .int .i64 0] 148)) := (Kac _).alloc (by simp) _
 have hR0 : RL w W q l [] ((W.alloc (.cells #[.int .i64 0, .int .i64 0, .int .i64 0, .string ⟨#[]⟩, .slice none 0 0] 72)).alloc (.cells #[.int .i64 0, .int .i64 0, .int .i64 0] 148)) l := by
  refine ⟨h.below hb, RTo.of_below hb, ?_, ?_, RepAt.start _ _ _, Nat.le_refl _⟩
  ·simp only [Kaf, World.size_alloc]; rw [if_neg (by omega), if_pos trivial]
  ·simp only [Kaf, World.size_alloc]; rw [if_pos trivial]; rfl
 have HR0 := yh hR0
 have he := rdRel_eq l
 have HE0 := yh he
 clear hb hR0 h he
 go_enter Tryz.func54, Tryz.ntmps54
 go_wp2
 go_loopw [6] (fun i wr => ∃ m : List Int, m.length ≤ 3 ∧ i = .int .i64 (m.length : Int) ∧ Hid (∃ l', RL w W q l m wr l')) (fun i _ => 3 - (intOf i).toNat)
 case atStart => exact ⟨[], by simp, rfl, yh ⟨l, HR0.out⟩⟩
 case round =>
  clear HR0
  obtain ⟨m, hm, rfl, HI⟩ := hrel
  obtain ⟨l', hi⟩ := HI.out
  clear HI
  by_cases hm3 : m.length < 3
  ·have HN := yh (Kat hi.st)
   have HI := yh hi
   cases hr : rdN 0 0 l' with
   | none =>
     rw [hr] at HN
     have hfail := hi.rep.fail hm3 (rdInt_none hr)
     have hE := HE0.out
     rw [hfail] at hE
     have HE := yh hE
     clear hfail hE hi
     have hk : m.length = 0 ∨ m.length = 1 ∨ m.length = 2 := by omega
     rcases hk with hk | hk | hk
     ·have g1 : ((m.length : Int)) = 0 := by omega
      rw [g1]
      go_wp2_with (go_at_call 55; refine HN.out.mono ?_; rintro e W5 h5; obtain ⟨t5, hb5, rfl⟩ := h5.none; have H5 := yh (And.intro t5 hb5); clear h5 t5 hb5)
      exact ⟨rfl, Reads.of HE.out ⟨HI.out.tr.trans H5.out.1, H5.out.2, rfl⟩⟩
     ·have g1 : ((m.length : Int)) = 1 := by omega
      rw [g1]
      go_wp2_with (go_at_call 55; refine HN.out.mono ?_; rintro e W5 h5; obtain ⟨t5, hb5, rfl⟩ := h5.none; have H5 := yh (And.intro t5 hb5); clear h5 t5 hb5)
      exact ⟨rfl, Reads.of HE.out ⟨HI.out.tr.trans H5.out.1, H5.out.2, rfl⟩⟩
     ·have g1 : ((m.length : Int)) = 2 := by omega
      rw [g1]
      go_wp2_with (go_at_call 55; refine HN.out.mono ?_; rintro e W5 h5; obtain ⟨t5, hb5, rfl⟩ := h5.none; have H5 := yh (And.intro t5 hb5); clear h5 t5 hb5)
      exact ⟨rfl, Reads.of HE.out ⟨HI.out.tr.trans H5.out.1, H5.out.2, rfl⟩⟩
   | some p =>
     obtain ⟨n, s⟩ := p
     rw [hr] at HN
     have HCV := yh (fun W' : World => conv_i64 (Kde hr) W')
     clear hi
     have hk : m.length = 0 ∨ m.length = 1 ∨ m.length = 2 := by omega
     rcases hk with hk | hk | hk
     ·have g1 : ((m.length : Int)) = 0 := by omega
      rw [g1]
      go_wp2_with (first
       | (go_at_call 55; refine HN.out.mono ?_; rintro e W5 h5
          (
           obtain ⟨t5, hb5, x5, rfl, rfl, s5⟩ := h5.some
           obtain ⟨hst, hnx⟩ := RL.next hq HI.out t5 s5 hr hm3
           rw [hk] at hst hnx
           have HST := yh hst
           have HNX := yh hnx
           clear h5 t5 hb5 s5 hst hnx HN))
       | ((with_reducible apply Kby); exact HCV.out _; exact rfl)
       | ((with_reducible apply Kad); exact HST.out; exact rfl; exact rfl; clear HST))
      go_roundw
      case rel => exact ⟨m ++ [toI n], by rw [List.length_append]; simp; omega, by rw [List.length_append, hk]; rfl, yh ⟨s, HNX.out⟩⟩
      case measure => simp [intOf]
     ·have g1 : ((m.length : Int)) = 1 := by omega
      rw [g1]
      go_wp2_with (first
       | (go_at_call 55; refine HN.out.mono ?_; rintro e W5 h5
          (
           obtain ⟨t5, hb5, x5, rfl, rfl, s5⟩ := h5.some
           obtain ⟨hst, hnx⟩ := RL.next hq HI.out t5 s5 hr hm3
           rw [hk] at hst hnx
           have HST := yh hst
           have HNX := yh hnx
           clear h5 t5 hb5 s5 hst hnx HN))
       | ((with_reducible apply Kby); exact HCV.out _; exact rfl)
       | ((with_reducible apply Kad); exact HST.out; exact rfl; exact rfl; clear HST))
      go_roundw
      case rel => exact ⟨m ++ [toI n], by rw [List.length_append]; simp; omega, by rw [List.length_append, hk]; rfl, yh ⟨s, HNX.out⟩⟩
      case measure => simp [intOf]
     ·have g1 : ((m.length : Int)) = 2 := by omega
      rw [g1]
      go_wp2_with (first
       | (go_at_call 55; refine HN.out.mono ?_; rintro e W5 h5
          (
           obtain ⟨t5, hb5, x5, rfl, rfl, s5⟩ := h5.some
           obtain ⟨hst, hnx⟩ := RL.next hq HI.out t5 s5 hr hm3
           rw [hk] at hst hnx
           have HST := yh hst
           have HNX := yh hnx
           clear h5 t5 hb5 s5 hst hnx HN))
       | ((with_reducible apply Kby); exact HCV.out _; exact rfl)
       | ((with_reducible apply Kad); exact HST.out; exact rfl; exact rfl; clear HST))
      go_roundw
      case rel => exact ⟨m ++ [toI n], by rw [List.length_append]; simp; omega, by rw [List.length_append, hk]; rfl, yh ⟨s, HNX.out⟩⟩
      case measure => simp [intOf]
  ·have hm4 : m.length = 3 := by omega
   obtain ⟨n0, n1, n2, rfl⟩ : ∃ a b c, m = [a, b, c] := by
    match m, hm4 with
    | [a, b, c], _ => exact ⟨a, b, c, rfl⟩
   have hdone := hi.rep.done rfl
   have hE := HE0.out
   rw [hdone] at hE
   simp only at hE
   have hll := hi.len
   have HT := yh (Kdy hi.st (by omega))
   have HI := yh hi
   clear hi hdone hm hm3 hm4
   cases hr1 : Ka4 l' with
   | none =>
     rw [hr1] at HT hE
     have HE := yh hE
     clear hE
     go_wp2_with (go_at_call 107; refine HT.out.mono ?_; rintro e W6 h6; obtain ⟨t6, hb6, rfl⟩ := h6.none; have H6 := yh (And.intro t6 hb6); clear h6 t6 hb6)
     exact ⟨rfl, Reads.of HE.out ⟨HI.out.tr.trans H6.out.1, H6.out.2, rfl⟩⟩
   | some p =>
     obtain ⟨s, t⟩ := p
     have hrl := rdText_le hr1
     rw [hr1] at HT hE
     simp only at hE
     cases hr2 : Kas Kdo t with
     | none =>
       rw [hr2] at hE
       have HE := yh hE
       clear hE
       go_wp2_with (go_at_call 107; refine HT.out.mono ?_; rintro e W6 h6; obtain ⟨t6, hb6, x6, rfl, rfl, s6⟩ := h6.some; have H6 := yh (And.intro t6 s6); clear h6 t6 hb6 s6)
       have h3lt : W.heap.size + 1 < W6.drew.heap.size := by have := (Array.getElem?_eq_some_iff.1 HI.out.p3).1; have := H6.out.1.size; show _ < W6.heap.size; omega
       have h3d : W6.drew.heap[W.heap.size + 1]? = some (.cells #[.int .i64 n0, .int .i64 n1, .int .i64 n2] 148 (0, 0)) := (H6.out.1.keep _ (Array.getElem?_eq_some_iff.1 HI.out.p3).1 (by omega)).trans HI.out.p3
       have hd := (Below.refl W6.heap.size W6).drew
       have HR2 := yh (rprops_any (H6.out.2.below hd) (by omega))
       rw [hr2] at HR2
       refine region_gives (by kernel_rfl) 10 [0, 1, 2, 3, 4, 5, 6, 7, 8, 9] (fun i => match i with
        | 0 => .pointer (some ⟨W.heap.size + 1, 0, none⟩) | 1 => .int .i64 n0 | 2 => .pointer (some ⟨W.heap.size + 1, 1, none⟩) | 3 => .int .i64 n1 | 4 => .pointer (some ⟨W.heap.size + 1, 2, none⟩) | 5 => .int .i64 n2
        | 6 => .string (strB s) | 9 => .func (.func 109) #[.pointer (some ⟨q, 0, none⟩)] #[] | _ => .pointer (some ⟨q, 0, none⟩)) (by decide) (by decide) (by kernel_rfl) (by kernel_rfl) (by kernel_rfl) (fun i hi a hS => ?_) (fun a ha hS => ?_)
       ·simp only [List.mem_cons, List.not_mem_nil, or_false] at hi
        rcases hi with rfl | rfl | rfl | rfl | rfl | rfl | rfl | rfl | rfl | rfl
        ·refine ⟨_, rfl, rfl, Kar rfl (hS.old 3 (.pointer (some ⟨W.heap.size + 1, 0, none⟩)) (by kernel_rfl) rfl) rfl (ia_three0 (W.heap.size + 1) _)⟩
        ·refine ⟨_, rfl, rfl, Kag rfl (hS.new 0 (by kernel_rfl) (by kernel_rfl)) (Kah (w := W6.drew) Tryz.underlying2 rfl (Kab (o := 0) h3d rfl))⟩
        ·refine ⟨_, rfl, rfl, Kar rfl (hS.old 3 (.pointer (some ⟨W.heap.size + 1, 0, none⟩)) (by kernel_rfl) rfl) rfl (ia_three1 (W.heap.size + 1) _)⟩
        ·refine ⟨_, rfl, rfl, Kag rfl (hS.new 2 (by kernel_rfl) (by kernel_rfl)) (Kah (w := W6.drew) Tryz.underlying2 rfl (Kab (o := 1) h3d rfl))⟩
        ·refine ⟨_, rfl, rfl, Kar rfl (hS.old 3 (.pointer (some ⟨W.heap.size + 1, 0, none⟩)) (by kernel_rfl) rfl) rfl (ia_three2 (W.heap.size + 1) _)⟩
        ·refine ⟨_, rfl, rfl, Kag rfl (hS.new 4 (by kernel_rfl) (by kernel_rfl)) (Kah (w := W6.drew) Tryz.underlying2 rfl (Kab (o := 2) h3d rfl))⟩
        ·exact ⟨_, rfl, rfl, Kai rfl (hS.old 5 (.string (strB s)) (by kernel_rfl) rfl)⟩
        ·exact ⟨_, rfl, rfl, Kai rfl (hS.old 0 (.pointer (some ⟨q, 0, none⟩)) (by kernel_rfl) rfl)⟩
        ·exact ⟨_, rfl, rfl, Kai rfl (hS.old 0 (.pointer (some ⟨q, 0, none⟩)) (by kernel_rfl) rfl)⟩
        ·exact ⟨_, rfl, rfl, exec_bound rfl (hS.new 8 (by kernel_rfl) (by kernel_rfl))⟩
       ·refine ⟨_, _, _, rfl, rfl, Kbh [.pointer (some ⟨q, 0, none⟩), .func (.func 109) #[.pointer (some ⟨q, 0, none⟩)] #[]] rfl (two_evals (hS.new 7 (by kernel_rfl) (by kernel_rfl)) (hS.new 9 (by kernel_rfl) (by kernel_rfl))) Tryz.func108 (by kernel_rfl) (by kernel_rfl), HR2.out.mono ?_⟩
        rintro e W8 h8
        obtain ⟨t8, hb8, rfl⟩ := h8.none
        exact ⟨_, rfl, fun a' ha' => ⟨ha', Reads.of HE.out ⟨((HI.out.tr.trans H6.out.1).trans (RTo.of_below hd)).trans t8, hb8, rfl⟩⟩⟩
     | some p2 =>
       obtain ⟨ps, u⟩ := p2
       rw [hr2] at hE
       have HE := yh hE
       clear hE
       go_wp2_with (go_at_call 107; refine HT.out.mono ?_; rintro e W6 h6; obtain ⟨t6, hb6, x6, rfl, rfl, s6⟩ := h6.some; have H6 := yh (And.intro t6 s6); clear h6 t6 hb6 s6)
       have h3lt : W.heap.size + 1 < W6.drew.heap.size := by have := (Array.getElem?_eq_some_iff.1 HI.out.p3).1; have := H6.out.1.size; show _ < W6.heap.size; omega
       have h2lt : W.heap.size < W6.drew.heap.size := by omega
       have h3d : W6.drew.heap[W.heap.size + 1]? = some (.cells #[.int .i64 n0, .int .i64 n1, .int .i64 n2] 148 (0, 0)) := (H6.out.1.keep _ (Array.getElem?_eq_some_iff.1 HI.out.p3).1 (by omega)).trans HI.out.p3
       have h2d : W6.drew.heap[W.heap.size]? = some (.cells #[.int .i64 0, .int .i64 0, .int .i64 0, .string ⟨#[]⟩, .slice none 0 0] 72 (0, 0)) := (H6.out.1.keep _ (Array.getElem?_eq_some_iff.1 HI.out.p2).1 (by omega)).trans HI.out.p2
       have hd := (Below.refl W6.heap.size W6).drew
       have HD := yh (And.intro (show RTo q W W6.drew from (HI.out.tr.trans H6.out.1).trans (RTo.of_below hd)) hd)
       have HR2 := yh (rprops_any (H6.out.2.below hd) (by omega))
       rw [hr2] at HR2
       refine Kan (fun W' => W'.heap[W.heap.size + 1]? = some (.cells #[.int .i64 n0, .int .i64 n1, .int .i64 n2] 148 (0, 0))) (by kernel_rfl) h3d (fun hS => ?_)
       refine take 0 17 (v := .pointer (some ⟨W.heap.size + 1, 0, none⟩)) rfl rfl (by kernel_rfl) (by kernel_rfl) (by kernel_rfl) rfl (fun W' hW => Kar rfl rfl rfl (ia_three0 (W.heap.size + 1) W')) (by assumption) ?_
       simp only [Act.put, sA, sZ, sS]
       refine take 1 18 (v := .int .i64 n0) rfl rfl (by kernel_rfl) (by kernel_rfl) (by kernel_rfl) rfl (fun W' hW => Kag rfl rfl (Kah (w := W') Tryz.underlying2 rfl (Kab (o := 0) hW rfl))) (by assumption) ?_
       simp only [Act.put, sA, sZ, sS]
       refine take 2 19 (v := .pointer (some ⟨W.heap.size + 1, 1, none⟩)) rfl rfl (by kernel_rfl) (by kernel_rfl) (by kernel_rfl) rfl (fun W' hW => Kar rfl rfl rfl (ia_three1 (W.heap.size + 1) W')) (by assumption) ?_
       simp only [Act.put, sA, sZ, sS]
       refine take 3 20 (v := .int .i64 n1) rfl rfl (by kernel_rfl) (by kernel_rfl) (by kernel_rfl) rfl (fun W' hW => Kag rfl rfl (Kah (w := W') Tryz.underlying2 rfl (Kab (o := 1) hW rfl))) (by assumption) ?_
       simp only [Act.put, sA, sZ, sS]
       refine take 4 21 (v := .pointer (some ⟨W.heap.size + 1, 2, none⟩)) rfl rfl (by kernel_rfl) (by kernel_rfl) (by kernel_rfl) rfl (fun W' hW => Kar rfl rfl rfl (ia_three2 (W.heap.size + 1) W')) (by assumption) ?_
       simp only [Act.put, sA, sZ, sS]
       refine take 5 22 (v := .int .i64 n2) rfl rfl (by kernel_rfl) (by kernel_rfl) (by kernel_rfl) rfl (fun W' hW => Kag rfl rfl (Kah (w := W') Tryz.underlying2 rfl (Kab (o := 2) hW rfl))) (by assumption) ?_
       simp only [Act.put, sA, sZ, sS]
       refine take 6 23 (v := .string (strB s)) rfl rfl (by kernel_rfl) (by kernel_rfl) (by kernel_rfl) rfl (fun W' hW => Kai rfl rfl) (by assumption) ?_
       simp only [Act.put, sA, sZ, sS]
       refine take 7 24 (v := .pointer (some ⟨q, 0, none⟩)) rfl rfl (by kernel_rfl) (by kernel_rfl) (by kernel_rfl) rfl (fun W' hW => Kai rfl rfl) (by assumption) ?_
       simp only [Act.put, sA, sZ, sS]
       refine take 8 25 (v := .pointer (some ⟨q, 0, none⟩)) rfl rfl (by kernel_rfl) (by kernel_rfl) (by kernel_rfl) rfl (fun W' hW => Kai rfl rfl) (by assumption) ?_
       simp only [Act.put, sA, sZ, sS]
       refine take 9 26 (v := .func (.func 109) #[.pointer (some ⟨q, 0, none⟩)] #[]) rfl rfl (by kernel_rfl) (by kernel_rfl) (by kernel_rfl) rfl (fun W' hW => exec_bound rfl rfl) (by assumption) ?_
       simp only [Act.put, sA, sZ, sS]
       refine Kb0 10 27 rfl rfl (by kernel_rfl) rfl (Kbh [.pointer (some ⟨q, 0, none⟩), .func (.func 109) #[.pointer (some ⟨q, 0, none⟩)] #[]] rfl rfl Tryz.func108 (by kernel_rfl) (by kernel_rfl)) ?_
       refine HR2.out.mono ?_
       rintro e W8 h8
       obtain ⟨t8, hb8, x8, rfl, hown8, s8⟩ := h8.some
       obtain ⟨p8, c8, rfl⟩ := hown8.slice
       have hq8 : q < W.heap.size := hq
       have hbase := HI.out.st.base
       have h38 := (t8.keep _ h3lt (by omega)).trans h3d
       have h28 := (t8.keep _ h2lt (by omega)).trans h2d
       have hst := StT.put Kd0 (cs := #[.int .i64 n0, .int .i64 n1, .int .i64 n2, .string (strB s), .slice p8 ps.length c8]) rfl (by simp [Value.oneCell']) h28 rfl
       have HLD := yh (StT.get Kd0 (cs := #[.int .i64 n0, .int .i64 n1, .int .i64 n2, .string (strB s), .slice p8 ps.length c8]) rfl (setRow_heap W8 W.heap.size _ _ _ _ h28))
       have ho : ∀ b, b ≠ W.heap.size → (W8.setRow W.heap.size #[.int .i64 n0, .int .i64 n1, .int .i64 n2, .string (strB s), .slice p8 ps.length c8]).heap[b]? = W8.heap[b]? := fun b hb => setRow_other W8 _ b _ hb
       have hsz : (W8.setRow W.heap.size #[.int .i64 n0, .int .i64 n1, .int .i64 n2, .string (strB s), .slice p8 ps.length c8]).heap.size = W8.heap.size := by simp
       have hB8 := Kch (B := W.heap.size) hb8 (by omega) #[.int .i64 n0, .int .i64 n1, .int .i64 n2, .string (strB s), .slice p8 ps.length c8]
       have hto8 : RTo q W (W8.setRow W.heap.size #[.int .i64 n0, .int .i64 n1, .int .i64 n2, .string (strB s), .slice p8 ps.length c8]) := ⟨by rw [hsz]; have := (HD.out.1.trans t8).size; omega, fun b hb1 hq1 => (ho b (by omega)).trans ((HD.out.1.trans t8).keep b hb1 hq1)⟩
       have hro : ROwn (W8.setRow W.heap.size #[.int .i64 n0, .int .i64 n1, .int .i64 n2, .string (strB s), .slice p8 ps.length c8]) (fun b => W.heap.size ≤ b) ⟨n0, n1, n2, s, ps⟩ #[.int .i64 n0, .int .i64 n1, .int .i64 n2, .string (strB s), .slice p8 ps.length c8] :=
        ⟨_, rfl, (hown8.keep Kcr fun b hb1 hl => ho b (by omega)).imp Kcr fun b _ hb1 => by omega⟩
       have HF := yh (And.intro hto8 (And.intro hB8 (And.intro hro (s8.other hB8 (ho q (by omega))))))
       refine ⟨_, rfl, .inr h38, ?_⟩
       simp only [Act.put, sA, sZ, sS]
       refine onlyRun 11 28 (v := .agg #[.int .i64 n0, .int .i64 n1, .int .i64 n2, .string (strB s), .slice p8 ps.length c8]) rfl rfl (by kernel_rfl) rfl (exec_buildRel rfl rfl rfl rfl rfl rfl) (.inr h38) ?_
       simp only [Act.put, sA, sZ, sS]
       refine onlySkip 12 rfl rfl (by kernel_rfl) rfl (Kdd rfl rfl rfl hst) (.inl (by kernel_rfl)) ?_
       refine done (by kernel_rfl) ?_ _
       clear hS h38 h28 hst ho hbase hsz hB8 hto8 hro h8 t8 hb8 hown8 s8 h3lt h2lt h3d h2d hd HR2 HT
       go_wp2
       refine bodyPost_ret (Kaj rfl _ _ ⟨W.heap.size, 0, none⟩ _ rfl HLD.out) rfl ?_
       exact Reads.of HE.out ⟨HF.out.1, HF.out.2.1, _, rfl, ⟨_, rfl, HF.out.2.2.1⟩, HF.out.2.2.2⟩
theorem StT.putAt {P : Program} {t : TypeId} {K : Nat} {W : World} {cs : Array Value} (h : StT P t K) {g off : Nat} {cur : Array Value} {ty : TypeId} (hs : cs.size = K) (h1 : ∀ u ∈ cs.toList, u.oneCell' = true) (hg : W.heap[g]? = some (.cells cur ty (0, 0))) (hfit : off + K ≤ cur.size) :
 (storeVar t ⟨g, off, none⟩ (.agg cs)).run P W = .ok () (W.setRow g (cur.toList.take off ++ cs.toList ++ cur.toList.drop (off + K)).toArray) := by
 obtain ⟨d, i, hu, hd, hi, hk⟩ := h
 have hst := run_storeCells_at P g off ty cs.toList 0 cur W hg (by simp; omega) h1
 simp only [Nat.add_zero, Array.length_toList, hs] at hst
 simp [storeVar, sizeOf, typeInfo, hi, hk, hs, hst, Value.cells]
theorem Kcc {l : List UInt8} (h : 0 < l.length) : Ka5 l =
 if (l[0]).toNat = 0 then (Kdx (l.drop 1)).map fun p => (⟨0, 0, 0, p.1, rel0⟩, p.2)
 else if (l[0]).toNat = 1 then (rdRel (l.drop 1)).map fun p => (⟨1, 0, 0, node0, p.1⟩, p.2)
 else if (l[0]).toNat = 2 ∨ (l[0]).toNat = 3 then (Kbi (l.drop 1)).map fun p => (⟨((l[0]).toNat : Int), p.1, 0, node0, rel0⟩, p.2)
 else if (l[0]).toNat = 4 then (Dec.seq Kbi Kbi (l.drop 1)).map fun p => (⟨4, p.1.1, p.1.2, node0, rel0⟩, p.2)
 else none := by
 cases l with
 | nil => simp at h
 | cons c r => rw [Ka5]; rfl
theorem nown0 (W : World) (P : Nat → Prop) : NOwn W P node0 #[.int .i64 0, .slice none 0 0, .slice none 0 0] := ⟨_, _, rfl, ⟨⟨by simp [node0], .inl ⟨rfl, rfl⟩⟩, fun g hg => by simp [Value.ownBlock] at hg⟩, GOwn.nil⟩
theorem rown0 (W : World) (P : Nat → Prop) : ROwn W P rel0 #[.int .i64 0, .int .i64 0, .int .i64 0, .string ⟨#[]⟩, .slice none 0 0] := ⟨_, rfl, GOwn.nil⟩
theorem cown_flat (W : World) (P : Nat → Prop) (k i o : Int) : COwn W P ⟨k, i, o, node0, rel0⟩ #[.int .i64 k, .int .i64 i, .int .i64 o, .int .i64 0, .slice none 0 0, .slice none 0 0, .int .i64 0, .int .i64 0, .int .i64 0, .string ⟨#[]⟩, .slice none 0 0] :=
 ⟨_, _, rfl, nown0 W P, rown0 W P⟩
theorem Kcj {w W W1 : World} {q : Nat} {r : List UInt8} (K : Int) (hq : q < W.heap.size) (t1 : RTo q (W.alloc (.cells #[.int .i64 0, .int .i64 0, .int .i64 0, .int .i64 0, .slice none 0 0, .slice none 0 0, .int .i64 0, .int .i64 0, .int .i64 0, .string ⟨#[]⟩, .slice none 0 0] 74)) W1) (s1 : RSt 141 w W1 q r) : BX 74 W q #[.int .i64 0, .int .i64 0, .int .i64 0, .int .i64 0, .slice none 0 0, .slice none 0 0, .int .i64 0, .int .i64 0, .int .i64 0, .string ⟨#[]⟩, .slice none 0 0] W1.heap.size #[.int .i64 K, .int .i64 0, .int .i64 0, .int .i64 0, .slice none 0 0, .slice none 0 0, .int .i64 0, .int .i64 0, .int .i64 0, .string ⟨#[]⟩, .slice none 0 0] (W1.alloc (.cells #[.int .i64 K, .int .i64 0, .int .i64 0, .int .i64 0, .slice none 0 0, .slice none 0 0, .int .i64 0, .int .i64 0, .int .i64 0, .string ⟨#[]⟩, .slice none 0 0] 74)) ∧ RSt 141 w (W1.alloc (.cells #[.int .i64 K, .int .i64 0, .int .i64 0, .int .i64 0, .slice none 0 0, .slice none 0 0, .int .i64 0, .int .i64 0, .int .i64 0, .string ⟨#[]⟩, .slice none 0 0] 74)) q r :=
 ⟨BX.start hq t1, s1.below (Kac (w := W1) (.cells #[.int .i64 K, .int .i64 0, .int .i64 0, .int .i64 0, .slice none 0 0, .slice none 0 0, .int .i64 0, .int .i64 0, .int .i64 0, .string ⟨#[]⟩, .slice none 0 0] 74))⟩
theorem rchange_node {w W : World} {q : Nat} {l : List UInt8} (h : RSt 141 w W q l) (hl : l.length ≤ 1000000) (hlp : 0 < l.length) {c : Nat} (hc0 : (l[0]).toNat = c) (hc : c = 0) :
 Calls Tryz.prog 82 #[.pointer (some ⟨q, 0, none⟩)] W (Reads w W q (Ka5 l) (Kdt W)) := by
 have hb := Kac (w := W) (.cells #[.int .i64 0, .int .i64 0, .int .i64 0, .int .i64 0, .slice none 0 0, .slice none 0 0, .int .i64 0, .int .i64 0, .int .i64 0, .string ⟨#[]⟩, .slice none 0 0] 74)
 have hq := h.lt
 have hcons := Kcc hlp
 have hc256 := (l[0]).toNat_lt
 have HC := yh (Kcb (h.below hb) hlp)
 rw [hc0] at hcons hc256 HC
 have hrl : (l.drop 1).length ≤ 1000000 := by rw [List.length_drop]; omega
 generalize l.drop 1 = r at *
 subst hc; rw [if_pos rfl] at hcons
 clear hb h hc0
 cases hr : Kdx r with
 | none =>
   have HE := yh (hcons.trans (show _ = none by rw [hr]; rfl))
   clear hcons
   go_enter Tryz.func82, Tryz.ntmps82
   go_wp2_with (first
    | (go_at_call 110; refine HC.out.mono ?_; rintro e W1 ⟨rfl, s1, t1⟩
       (
        obtain ⟨hx1, st1⟩ := Kcj 0 hq t1 s1
        have c0 := Kab (o := 0) hx1.p3 rfl
        have HX := yh (And.intro hx1 st1)
        have HN := yh (rnode_any st1 hrl)
        rw [hr] at HN
        clear hx1 st1 s1 t1 HC))
    | (go_at_call 52; refine HN.out.mono ?_; rintro e W5 h5; obtain ⟨t5, hb5, rfl⟩ := h5.none; have H5 := yh (And.intro t5 hb5); clear h5 t5 hb5))
   exact ⟨rfl, Reads.of HE.out ⟨HX.out.1.tr.trans H5.out.1, H5.out.2, rfl⟩⟩
 | some p =>
   obtain ⟨x, s⟩ := p
   have HE := yh (hcons.trans (show _ = some (⟨0, 0, 0, x, rel0⟩, s) by rw [hr]; rfl))
   clear hcons
   go_enter Tryz.func82, Tryz.ntmps82
   go_wp2_with (first
    | (go_at_call 110; refine HC.out.mono ?_; rintro e W1 ⟨rfl, s1, t1⟩
       (
        obtain ⟨hx1, st1⟩ := Kcj 0 hq t1 s1
        have c0 := Kab (o := 0) hx1.p3 rfl
        have HX := yh (And.intro hx1 st1)
        have HN := yh (rnode_any st1 hrl)
        rw [hr] at HN
        clear hx1 st1 s1 t1 HC))
    | (go_at_call 52; refine HN.out.mono ?_; rintro e W5 h5
       (
        obtain ⟨t5, hb5, x5, rfl, ⟨cs, rfl, hown⟩, hstm⟩ := h5.some
        obtain ⟨vl, vp, rfl, ho1, ho2⟩ := hown
        obtain ⟨pa, ca, rfl⟩ : ∃ p c, vl = .slice p x.labels.length c := Kbx ho1
        obtain ⟨pb, cb, rfl⟩ := ho2.slice
        have hV5 := HX.out.1.step t5
        have HST := yh (StT.putAt Kct (off := 3) (cs := #[.int .i64 x.id, .slice pa x.labels.length ca, .slice pb x.props.length cb]) rfl (by simp [Value.oneCell']) hV5.p3 (by decide))
        have hsz : (W5.setRow W1.heap.size #[.int .i64 0, .int .i64 0, .int .i64 0, .int .i64 x.id, .slice pa x.labels.length ca, .slice pb x.props.length cb, .int .i64 0, .int .i64 0, .int .i64 0, .string ⟨#[]⟩, .slice none 0 0]).heap.size = W5.heap.size := by simp
        have hVn : BX 74 W q #[.int .i64 0, .int .i64 0, .int .i64 0, .int .i64 0, .slice none 0 0, .slice none 0 0, .int .i64 0, .int .i64 0, .int .i64 0, .string ⟨#[]⟩, .slice none 0 0] W1.heap.size #[.int .i64 0, .int .i64 0, .int .i64 0, .int .i64 x.id, .slice pa x.labels.length ca, .slice pb x.props.length cb, .int .i64 0, .int .i64 0, .int .i64 0, .string ⟨#[]⟩, .slice none 0 0] (W5.setRow W1.heap.size #[.int .i64 0, .int .i64 0, .int .i64 0, .int .i64 x.id, .slice pa x.labels.length ca, .slice pb x.props.length cb, .int .i64 0, .int .i64 0, .int .i64 0, .string ⟨#[]⟩, .slice none 0 0]) := hV5.turn (setRow_heap W5 _ _ _ _ _ hV5.p3) (fun b hb1 => setRow_other W5 _ b _ hb1) hsz
        have hstn := hV5.other hstm (fun b hb1 => setRow_other W5 W1.heap.size b #[.int .i64 0, .int .i64 0, .int .i64 0, .int .i64 x.id, .slice pa x.labels.length ca, .slice pb x.props.length cb, .int .i64 0, .int .i64 0, .int .i64 0, .string ⟨#[]⟩, .slice none 0 0] hb1) (Kch hb5 (by have := hV5.lo; have := hV5.ql; have := hstm.base; omega) _)
        have hlo := hVn.lo
        have hk : ∀ b, b ≠ W1.heap.size → b ≠ W.heap.size → ((W5.setRow W1.heap.size #[.int .i64 0, .int .i64 0, .int .i64 0, .int .i64 x.id, .slice pa x.labels.length ca, .slice pb x.props.length cb, .int .i64 0, .int .i64 0, .int .i64 0, .string ⟨#[]⟩, .slice none 0 0]).setRow W.heap.size #[.int .i64 0, .int .i64 0, .int .i64 0, .int .i64 x.id, .slice pa x.labels.length ca, .slice pb x.props.length cb, .int .i64 0, .int .i64 0, .int .i64 0, .string ⟨#[]⟩, .slice none 0 0]).heap[b]? = W5.heap[b]? := fun b h1 h2 => (setRow_other _ _ b _ h2).trans (setRow_other W5 _ b _ h1)
        have hs1 : (W1.alloc (.cells #[.int .i64 0, .int .i64 0, .int .i64 0, .int .i64 0, .slice none 0 0, .slice none 0 0, .int .i64 0, .int .i64 0, .int .i64 0, .string ⟨#[]⟩, .slice none 0 0] 74)).heap.size = W1.heap.size + 1 := by simp
        rw [hs1] at ho1 ho2
        have hco : COwn ((W5.setRow W1.heap.size #[.int .i64 0, .int .i64 0, .int .i64 0, .int .i64 x.id, .slice pa x.labels.length ca, .slice pb x.props.length cb, .int .i64 0, .int .i64 0, .int .i64 0, .string ⟨#[]⟩, .slice none 0 0]).setRow W.heap.size #[.int .i64 0, .int .i64 0, .int .i64 0, .int .i64 x.id, .slice pa x.labels.length ca, .slice pb x.props.length cb, .int .i64 0, .int .i64 0, .int .i64 0, .string ⟨#[]⟩, .slice none 0 0]) (fun b => W.heap.size ≤ b) ⟨0, 0, 0, x, rel0⟩ #[.int .i64 0, .int .i64 0, .int .i64 0, .int .i64 x.id, .slice pa x.labels.length ca, .slice pb x.props.length cb, .int .i64 0, .int .i64 0, .int .i64 0, .string ⟨#[]⟩, .slice none 0 0] :=
         ⟨_, _, rfl, ⟨_, _, rfl, (ho1.keep fun b hb1 _ => hk b (by omega) (by omega)).imp fun b _ hb1 => by omega, (ho2.keep Kcr fun b hb1 _ => hk b (by omega) (by omega)).imp Kcr fun b _ hb1 => by omega⟩, rown0 _ _⟩
        obtain ⟨f1, f2, f3, f4, f5, f6, f7⟩ := hVn.fin Kb3 rfl rfl (by simp [Value.oneCell']) hstn
        have HL5 := yh f1
        have HS4 := yh f2
        have HLD := yh f3
        have HF := yh (And.intro f4 (And.intro f5 (And.intro f6 hco)))
        clear f1 f2 f3 f4 f5 f6 f7
        clear h5 t5 hb5 hstm hV5 hVn hstn ho1 ho2 hsz hlo hk hs1 hco HN))
    | ((with_reducible apply Kad); exact HST.out; exact rfl; exact rfl; clear HST)
    | ((with_reducible apply Kal); exact HL5.out; exact rfl)
    | ((with_reducible apply Kad); exact HS4.out; exact rfl; exact rfl))
   refine bodyPost_ret (Kaj rfl _ _ ⟨W.heap.size, 0, none⟩ _ rfl HLD.out) rfl ?_
   exact Reads.of HE.out ⟨HF.out.2.1, HF.out.2.2.1, _, rfl, ⟨_, rfl, HF.out.2.2.2⟩, HF.out.1⟩
theorem rchange_rel {w W : World} {q : Nat} {l : List UInt8} (h : RSt 141 w W q l) (hl : l.length ≤ 1000000) (hlp : 0 < l.length) {c : Nat} (hc0 : (l[0]).toNat = c) (hc : c = 1) :
 Calls Tryz.prog 82 #[.pointer (some ⟨q, 0, none⟩)] W (Reads w W q (Ka5 l) (Kdt W)) := by
 have hb := Kac (w := W) (.cells #[.int .i64 0, .int .i64 0, .int .i64 0, .int .i64 0, .slice none 0 0, .slice none 0 0, .int .i64 0, .int .i64 0, .int .i64 0, .string ⟨#[]⟩, .slice none 0 0] 74)
 have hq := h.lt
 have hcons := Kcc hlp
 have hc256 := (l[0]).toNat_lt
 have HC := yh (Kcb (h.below hb) hlp)
 rw [hc0] at hcons hc256 HC
 have hrl : (l.drop 1).length ≤ 1000000 := by rw [List.length_drop]; omega
 generalize l.drop 1 = r at *
 subst hc; rw [if_neg (by decide), if_pos rfl] at hcons
 clear hb h hc0
 cases hr : rdRel r with
 | none =>
   have HE := yh (hcons.trans (show _ = none by rw [hr]; rfl))
   clear hcons
   go_enter Tryz.func82, Tryz.ntmps82
   go_wp2_with (first
    | (go_at_call 110; refine HC.out.mono ?_; rintro e W1 ⟨rfl, s1, t1⟩
       (
        obtain ⟨hx1, st1⟩ := Kcj 1 hq t1 s1
        have c0 := Kab (o := 0) hx1.p3 rfl
        have HX := yh (And.intro hx1 st1)
        have HN := yh (rrel_any st1 hrl)
        rw [hr] at HN
        clear hx1 st1 s1 t1 HC))
    | (go_at_call 54; refine HN.out.mono ?_; rintro e W5 h5; obtain ⟨t5, hb5, rfl⟩ := h5.none; have H5 := yh (And.intro t5 hb5); clear h5 t5 hb5))
   exact ⟨rfl, Reads.of HE.out ⟨HX.out.1.tr.trans H5.out.1, H5.out.2, rfl⟩⟩
 | some p =>
   obtain ⟨x, s⟩ := p
   have HE := yh (hcons.trans (show _ = some (⟨1, 0, 0, node0, x⟩, s) by rw [hr]; rfl))
   clear hcons
   go_enter Tryz.func82, Tryz.ntmps82
   go_wp2_with (first
    | (go_at_call 110; refine HC.out.mono ?_; rintro e W1 ⟨rfl, s1, t1⟩
       (
        obtain ⟨hx1, st1⟩ := Kcj 1 hq t1 s1
        have c0 := Kab (o := 0) hx1.p3 rfl
        have HX := yh (And.intro hx1 st1)
        have HN := yh (rrel_any st1 hrl)
        rw [hr] at HN
        clear hx1 st1 s1 t1 HC))
    | (go_at_call 54; refine HN.out.mono ?_; rintro e W5 h5
       (
        obtain ⟨t5, hb5, x5, rfl, ⟨cs, rfl, hown⟩, hstm⟩ := h5.some
        obtain ⟨vp, rfl, ho2⟩ := hown
        obtain ⟨pb, cb, rfl⟩ := ho2.slice
        have hV5 := HX.out.1.step t5
        have HST := yh (StT.putAt Kd0 (off := 6) (cs := #[.int .i64 x.id, .int .i64 x.src, .int .i64 x.dst, .string (strB x.type), .slice pb x.props.length cb]) rfl (by simp [Value.oneCell']) hV5.p3 (by decide))
        have hsz : (W5.setRow W1.heap.size #[.int .i64 1, .int .i64 0, .int .i64 0, .int .i64 0, .slice none 0 0, .slice none 0 0, .int .i64 x.id, .int .i64 x.src, .int .i64 x.dst, .string (strB x.type), .slice pb x.props.length cb]).heap.size = W5.heap.size := by simp
        have hVn : BX 74 W q #[.int .i64 0, .int .i64 0, .int .i64 0, .int .i64 0, .slice none 0 0, .slice none 0 0, .int .i64 0, .int .i64 0, .int .i64 0, .string ⟨#[]⟩, .slice none 0 0] W1.heap.size #[.int .i64 1, .int .i64 0, .int .i64 0, .int .i64 0, .slice none 0 0, .slice none 0 0, .int .i64 x.id, .int .i64 x.src, .int .i64 x.dst, .string (strB x.type), .slice pb x.props.length cb] (W5.setRow W1.heap.size #[.int .i64 1, .int .i64 0, .int .i64 0, .int .i64 0, .slice none 0 0, .slice none 0 0, .int .i64 x.id, .int .i64 x.src, .int .i64 x.dst, .string (strB x.type), .slice pb x.props.length cb]) := hV5.turn (setRow_heap W5 _ _ _ _ _ hV5.p3) (fun b hb1 => setRow_other W5 _ b _ hb1) hsz
        have hstn := hV5.other hstm (fun b hb1 => setRow_other W5 W1.heap.size b #[.int .i64 1, .int .i64 0, .int .i64 0, .int .i64 0, .slice none 0 0, .slice none 0 0, .int .i64 x.id, .int .i64 x.src, .int .i64 x.dst, .string (strB x.type), .slice pb x.props.length cb] hb1) (Kch hb5 (by have := hV5.lo; have := hV5.ql; have := hstm.base; omega) _)
        have hlo := hVn.lo
        have hk : ∀ b, b ≠ W1.heap.size → b ≠ W.heap.size → ((W5.setRow W1.heap.size #[.int .i64 1, .int .i64 0, .int .i64 0, .int .i64 0, .slice none 0 0, .slice none 0 0, .int .i64 x.id, .int .i64 x.src, .int .i64 x.dst, .string (strB x.type), .slice pb x.props.length cb]).setRow W.heap.size #[.int .i64 1, .int .i64 0, .int .i64 0, .int .i64 0, .slice none 0 0, .slice none 0 0, .int .i64 x.id, .int .i64 x.src, .int .i64 x.dst, .string (strB x.type), .slice pb x.props.length cb]).heap[b]? = W5.heap[b]? := fun b h1 h2 => (setRow_other _ _ b _ h2).trans (setRow_other W5 _ b _ h1)
        have hs1 : (W1.alloc (.cells #[.int .i64 1, .int .i64 0, .int .i64 0, .int .i64 0, .slice none 0 0, .slice none 0 0, .int .i64 0, .int .i64 0, .int .i64 0, .string ⟨#[]⟩, .slice none 0 0] 74)).heap.size = W1.heap.size + 1 := by simp
        rw [hs1] at ho2
        have hco : COwn ((W5.setRow W1.heap.size #[.int .i64 1, .int .i64 0, .int .i64 0, .int .i64 0, .slice none 0 0, .slice none 0 0, .int .i64 x.id, .int .i64 x.src, .int .i64 x.dst, .string (strB x.type), .slice pb x.props.length cb]).setRow W.heap.size #[.int .i64 1, .int .i64 0, .int .i64 0, .int .i64 0, .slice none 0 0, .slice none 0 0, .int .i64 x.id, .int .i64 x.src, .int .i64 x.dst, .string (strB x.type), .slice pb x.props.length cb]) (fun b => W.heap.size ≤ b) ⟨1, 0, 0, node0, x⟩ #[.int .i64 1, .int .i64 0, .int .i64 0, .int .i64 0, .slice none 0 0, .slice none 0 0, .int .i64 x.id, .int .i64 x.src, .int .i64 x.dst, .string (strB x.type), .slice pb x.props.length cb] :=
         ⟨_, _, rfl, nown0 _ _, ⟨_, rfl, (ho2.keep Kcr fun b hb1 _ => hk b (by omega) (by omega)).imp Kcr fun b _ hb1 => by omega⟩⟩
        obtain ⟨f1, f2, f3, f4, f5, f6, f7⟩ := hVn.fin Kb3 rfl rfl (by simp [Value.oneCell']) hstn
        have HL5 := yh f1
        have HS4 := yh f2
        have HLD := yh f3
        have HF := yh (And.intro f4 (And.intro f5 (And.intro f6 hco)))
        clear f1 f2 f3 f4 f5 f6 f7
        clear h5 t5 hb5 hstm hV5 hVn hstn ho2 hsz hlo hk hs1 hco HN))
    | ((with_reducible apply Kad); exact HST.out; exact rfl; exact rfl; clear HST)
    | ((with_reducible apply Kal); exact HL5.out; exact rfl)
    | ((with_reducible apply Kad); exact HS4.out; exact rfl; exact rfl))
   refine bodyPost_ret (Kaj rfl _ _ ⟨W.heap.size, 0, none⟩ _ rfl HLD.out) rfl ?_
   exact Reads.of HE.out ⟨HF.out.2.1, HF.out.2.2.1, _, rfl, ⟨_, rfl, HF.out.2.2.2⟩, HF.out.1⟩
theorem rchange_dn {w W : World} {q : Nat} {l : List UInt8} (h : RSt 141 w W q l) (hl : l.length ≤ 1000000) (hlp : 0 < l.length) {c : Nat} (hc0 : (l[0]).toNat = c) (hc : c = 2) :
 Calls Tryz.prog 82 #[.pointer (some ⟨q, 0, none⟩)] W (Reads w W q (Ka5 l) (Kdt W)) := by
 have hb := Kac (w := W) (.cells #[.int .i64 0, .int .i64 0, .int .i64 0, .int .i64 0, .slice none 0 0, .slice none 0 0, .int .i64 0, .int .i64 0, .int .i64 0, .string ⟨#[]⟩, .slice none 0 0] 74)
 have hq := h.lt
 have hcons := Kcc hlp
 have hc256 := (l[0]).toNat_lt
 have HC := yh (Kcb (h.below hb) hlp)
 rw [hc0] at hcons hc256 HC
 have hrl : (l.drop 1).length ≤ 1000000 := by rw [List.length_drop]; omega
 generalize l.drop 1 = r at *
 subst hc; rw [if_neg (by decide), if_neg (by decide), if_pos (by decide)] at hcons
 clear hb h hc0
 cases hr : Kbi r with
 | none =>
   have HE := yh (hcons.trans (show _ = none by rw [hr]; rfl))
   clear hcons
   go_enter Tryz.func82, Tryz.ntmps82
   go_wp2_with (first
    | (go_at_call 110; refine HC.out.mono ?_; rintro e W1 ⟨rfl, s1, t1⟩
       (
        obtain ⟨hx1, st1⟩ := Kcj 2 hq t1 s1
        have c0 := Kab (o := 0) hx1.p3 rfl
        have HX := yh (And.intro hx1 st1)
        have HN := yh (Kbm st1)
        rw [hr] at HN
        clear hx1 st1 s1 t1 HC))
    | (go_at_call 123; refine HN.out.mono ?_; rintro e W5 h5; obtain ⟨t5, hb5, rfl⟩ := h5.none; have H5 := yh (And.intro t5 hb5); clear h5 t5 hb5))
   exact ⟨rfl, Reads.of HE.out ⟨HX.out.1.tr.trans H5.out.1, H5.out.2, rfl⟩⟩
 | some p =>
   obtain ⟨x, s⟩ := p
   have HE := yh (hcons.trans (show _ = some (⟨2, x, 0, node0, rel0⟩, s) by rw [hr]; rfl))
   clear hcons
   go_enter Tryz.func82, Tryz.ntmps82
   go_wp2_with (first
    | (go_at_call 110; refine HC.out.mono ?_; rintro e W1 ⟨rfl, s1, t1⟩
       (
        obtain ⟨hx1, st1⟩ := Kcj 2 hq t1 s1
        have c0 := Kab (o := 0) hx1.p3 rfl
        have HX := yh (And.intro hx1 st1)
        have HN := yh (Kbm st1)
        rw [hr] at HN
        clear hx1 st1 s1 t1 HC))
    | (go_at_call 123; refine HN.out.mono ?_; rintro e W5 h5
       (
        obtain ⟨t5, hb5, x5, rfl, rfl, hstm⟩ := h5.some
        have hV5 := HX.out.1.step t5
        have HST := yh (Kc6 (n := x) (Kab (o := 1) hV5.p3 rfl) (Kav (o := 1) hV5.p3))
        have hVn : BX 74 W q #[.int .i64 0, .int .i64 0, .int .i64 0, .int .i64 0, .slice none 0 0, .slice none 0 0, .int .i64 0, .int .i64 0, .int .i64 0, .string ⟨#[]⟩, .slice none 0 0] W1.heap.size #[.int .i64 2, .int .i64 x, .int .i64 0, .int .i64 0, .slice none 0 0, .slice none 0 0, .int .i64 0, .int .i64 0, .int .i64 0, .string ⟨#[]⟩, .slice none 0 0] (W5.setCell ⟨W1.heap.size, 1, none⟩ (.int .i64 x)) := by simpa using hV5.set 1 (.int .i64 x)
        have hstn := hV5.setR hstm 1 (.int .i64 x)
        obtain ⟨f1, f2, f3, f4, f5, f6, f7⟩ := hVn.fin Kb3 rfl rfl (by simp [Value.oneCell']) hstn
        have HL5 := yh f1
        have HS4 := yh f2
        have HLD := yh f3
        have HF := yh (And.intro f4 (And.intro f5 (And.intro f6 (cown_flat ((W5.setCell ⟨W1.heap.size, 1, none⟩ (.int .i64 x)).setRow W.heap.size #[.int .i64 2, .int .i64 x, .int .i64 0, .int .i64 0, .slice none 0 0, .slice none 0 0, .int .i64 0, .int .i64 0, .int .i64 0, .string ⟨#[]⟩, .slice none 0 0]) (fun b => W.heap.size ≤ b) 2 x 0))))
        clear f1 f2 f3 f4 f5 f6 f7
        clear h5 t5 hb5 hstm hV5 hVn hstn HN))
    | ((with_reducible apply Kad); exact HST.out; exact rfl; exact rfl; clear HST)
    | ((with_reducible apply Kal); exact HL5.out; exact rfl)
    | ((with_reducible apply Kad); exact HS4.out; exact rfl; exact rfl))
   refine bodyPost_ret (Kaj rfl _ _ ⟨W.heap.size, 0, none⟩ _ rfl HLD.out) rfl ?_
   exact Reads.of HE.out ⟨HF.out.2.1, HF.out.2.2.1, _, rfl, ⟨_, rfl, HF.out.2.2.2⟩, HF.out.1⟩
theorem rchange_dr {w W : World} {q : Nat} {l : List UInt8} (h : RSt 141 w W q l) (hl : l.length ≤ 1000000) (hlp : 0 < l.length) {c : Nat} (hc0 : (l[0]).toNat = c) (hc : c = 3) :
 Calls Tryz.prog 82 #[.pointer (some ⟨q, 0, none⟩)] W (Reads w W q (Ka5 l) (Kdt W)) := by
 have hb := Kac (w := W) (.cells #[.int .i64 0, .int .i64 0, .int .i64 0, .int .i64 0, .slice none 0 0, .slice none 0 0, .int .i64 0, .int .i64 0, .int .i64 0, .string ⟨#[]⟩, .slice none 0 0] 74)
 have hq := h.lt
 have hcons := Kcc hlp
 have hc256 := (l[0]).toNat_lt
 have HC := yh (Kcb (h.below hb) hlp)
 rw [hc0] at hcons hc256 HC
 have hrl : (l.drop 1).length ≤ 1000000 := by rw [List.length_drop]; omega
 generalize l.drop 1 = r at *
 subst hc; rw [if_neg (by decide), if_neg (by decide), if_pos (by decide)] at hcons
 clear hb h hc0
 cases hr : Kbi r with
 | none =>
   have HE := yh (hcons.trans (show _ = none by rw [hr]; rfl))
   clear hcons
   go_enter Tryz.func82, Tryz.ntmps82
   go_wp2_with (first
    | (go_at_call 110; refine HC.out.mono ?_; rintro e W1 ⟨rfl, s1, t1⟩
       (
        obtain ⟨hx1, st1⟩ := Kcj 3 hq t1 s1
        have c0 := Kab (o := 0) hx1.p3 rfl
        have HX := yh (And.intro hx1 st1)
        have HN := yh (Kbm st1)
        rw [hr] at HN
        clear hx1 st1 s1 t1 HC))
    | (go_at_call 123; refine HN.out.mono ?_; rintro e W5 h5; obtain ⟨t5, hb5, rfl⟩ := h5.none; have H5 := yh (And.intro t5 hb5); clear h5 t5 hb5))
   exact ⟨rfl, Reads.of HE.out ⟨HX.out.1.tr.trans H5.out.1, H5.out.2, rfl⟩⟩
 | some p =>
   obtain ⟨x, s⟩ := p
   have HE := yh (hcons.trans (show _ = some (⟨3, x, 0, node0, rel0⟩, s) by rw [hr]; rfl))
   clear hcons
   go_enter Tryz.func82, Tryz.ntmps82
   go_wp2_with (first
    | (go_at_call 110; refine HC.out.mono ?_; rintro e W1 ⟨rfl, s1, t1⟩
       (
        obtain ⟨hx1, st1⟩ := Kcj 3 hq t1 s1
        have c0 := Kab (o := 0) hx1.p3 rfl
        have HX := yh (And.intro hx1 st1)
        have HN := yh (Kbm st1)
        rw [hr] at HN
        clear hx1 st1 s1 t1 HC))
    | (go_at_call 123; refine HN.out.mono ?_; rintro e W5 h5
       (
        obtain ⟨t5, hb5, x5, rfl, rfl, hstm⟩ := h5.some
        have hV5 := HX.out.1.step t5
        have HST := yh (Kc6 (n := x) (Kab (o := 1) hV5.p3 rfl) (Kav (o := 1) hV5.p3))
        have hVn : BX 74 W q #[.int .i64 0, .int .i64 0, .int .i64 0, .int .i64 0, .slice none 0 0, .slice none 0 0, .int .i64 0, .int .i64 0, .int .i64 0, .string ⟨#[]⟩, .slice none 0 0] W1.heap.size #[.int .i64 3, .int .i64 x, .int .i64 0, .int .i64 0, .slice none 0 0, .slice none 0 0, .int .i64 0, .int .i64 0, .int .i64 0, .string ⟨#[]⟩, .slice none 0 0] (W5.setCell ⟨W1.heap.size, 1, none⟩ (.int .i64 x)) := by simpa using hV5.set 1 (.int .i64 x)
        have hstn := hV5.setR hstm 1 (.int .i64 x)
        obtain ⟨f1, f2, f3, f4, f5, f6, f7⟩ := hVn.fin Kb3 rfl rfl (by simp [Value.oneCell']) hstn
        have HL5 := yh f1
        have HS4 := yh f2
        have HLD := yh f3
        have HF := yh (And.intro f4 (And.intro f5 (And.intro f6 (cown_flat ((W5.setCell ⟨W1.heap.size, 1, none⟩ (.int .i64 x)).setRow W.heap.size #[.int .i64 3, .int .i64 x, .int .i64 0, .int .i64 0, .slice none 0 0, .slice none 0 0, .int .i64 0, .int .i64 0, .int .i64 0, .string ⟨#[]⟩, .slice none 0 0]) (fun b => W.heap.size ≤ b) 3 x 0))))
        clear f1 f2 f3 f4 f5 f6 f7
        clear h5 t5 hb5 hstm hV5 hVn hstn HN))
    | ((with_reducible apply Kad); exact HST.out; exact rfl; exact rfl; clear HST)
    | ((with_reducible apply Kal); exact HL5.out; exact rfl)
    | ((with_reducible apply Kad); exact HS4.out; exact rfl; exact rfl))
   refine bodyPost_ret (Kaj rfl _ _ ⟨W.heap.size, 0, none⟩ _ rfl HLD.out) rfl ?_
   exact Reads.of HE.out ⟨HF.out.2.1, HF.out.2.2.1, _, rfl, ⟨_, rfl, HF.out.2.2.2⟩, HF.out.1⟩
theorem rchange_next {w W : World} {q : Nat} {l : List UInt8} (h : RSt 141 w W q l) (hl : l.length ≤ 1000000) (hlp : 0 < l.length) {c : Nat} (hc0 : (l[0]).toNat = c) (hc : c = 4) :
 Calls Tryz.prog 82 #[.pointer (some ⟨q, 0, none⟩)] W (Reads w W q (Ka5 l) (Kdt W)) := by
 have hb := Kac (w := W) (.cells #[.int .i64 0, .int .i64 0, .int .i64 0, .int .i64 0, .slice none 0 0, .slice none 0 0, .int .i64 0, .int .i64 0, .int .i64 0, .string ⟨#[]⟩, .slice none 0 0] 74)
 have hq := h.lt
 have hcons := Kcc hlp
 have hc256 := (l[0]).toNat_lt
 have HC := yh (Kcb (h.below hb) hlp)
 rw [hc0] at hcons hc256 HC
 have hrl : (l.drop 1).length ≤ 1000000 := by rw [List.length_drop]; omega
 generalize l.drop 1 = r at *
 subst hc; rw [if_neg (by decide), if_neg (by decide), if_neg (by decide), if_pos rfl] at hcons
 clear hb h hc0
 cases hr : Kbi r with
 | none =>
   have HE := yh (hcons.trans (show _ = none by rw [seq_n1 hr]; rfl))
   clear hcons
   go_enter Tryz.func82, Tryz.ntmps82
   go_wp2_with (first
    | (go_at_call 110; refine HC.out.mono ?_; rintro e W1 ⟨rfl, s1, t1⟩
       (
        obtain ⟨hx1, st1⟩ := Kcj 4 hq t1 s1
        have c0 := Kab (o := 0) hx1.p3 rfl
        have HX := yh (And.intro hx1 st1)
        have HN := yh (Kbm st1)
        rw [hr] at HN
        clear hx1 st1 s1 t1 HC))
    | (go_at_call 123; refine HN.out.mono ?_; rintro e W5 h5; obtain ⟨t5, hb5, rfl⟩ := h5.none; have H5 := yh (And.intro t5 hb5); clear h5 t5 hb5))
   exact ⟨rfl, Reads.of HE.out ⟨HX.out.1.tr.trans H5.out.1, H5.out.2, rfl⟩⟩
 | some p =>
   obtain ⟨x, s0⟩ := p
   cases hr2 : Kbi s0 with
   | none =>
     have HE := yh (hcons.trans (show _ = none by rw [Kcm hr hr2]; rfl))
     clear hcons
     go_enter Tryz.func82, Tryz.ntmps82
     go_wp2_with (first
      | (go_at_call 110; refine HC.out.mono ?_; rintro e W1 ⟨rfl, s1, t1⟩
         (
          obtain ⟨hx1, st1⟩ := Kcj 4 hq t1 s1
          have c0 := Kab (o := 0) hx1.p3 rfl
          have HX := yh (And.intro hx1 st1)
          have HN := yh (Kbm st1)
          rw [hr] at HN
          clear hx1 st1 s1 t1 HC))
      | (go_at_call 123; first
         | (refine HN2.out.mono ?_; rintro e W7 h7; obtain ⟨t7, hb7, rfl⟩ := h7.none; have H7 := yh (And.intro t7 hb7); clear h7 t7 hb7)
         | (refine HN.out.mono ?_; rintro e W5 h5
            (
             obtain ⟨t5, hb5, x5, rfl, rfl, hstm⟩ := h5.some
             have hV5 := HX.out.1.step t5
             have HST := yh (Kc6 (n := x) (Kab (o := 1) hV5.p3 rfl) (Kav (o := 1) hV5.p3))
             have hV6 : BX 74 W q #[.int .i64 0, .int .i64 0, .int .i64 0, .int .i64 0, .slice none 0 0, .slice none 0 0, .int .i64 0, .int .i64 0, .int .i64 0, .string ⟨#[]⟩, .slice none 0 0] W1.heap.size #[.int .i64 4, .int .i64 x, .int .i64 0, .int .i64 0, .slice none 0 0, .slice none 0 0, .int .i64 0, .int .i64 0, .int .i64 0, .string ⟨#[]⟩, .slice none 0 0] (W5.setCell ⟨W1.heap.size, 1, none⟩ (.int .i64 x)) := by simpa using hV5.set 1 (.int .i64 x)
             have hst6 := hV5.setR hstm 1 (.int .i64 x)
             have HN2 := yh (Kbm hst6)
             rw [hr2] at HN2
             have HX6 := yh hV6
             clear h5 t5 hb5 hstm hV5 hV6 hst6 HN
             ))
         )
      | ((with_reducible apply Kad); exact HST.out; exact rfl; exact rfl; clear HST))
     exact ⟨rfl, Reads.of HE.out ⟨HX6.out.tr.trans H7.out.1, H7.out.2, rfl⟩⟩
   | some p2 =>
     obtain ⟨y, s⟩ := p2
     have HE := yh (hcons.trans (show _ = some (⟨4, x, y, node0, rel0⟩, s) by rw [seq_s hr hr2]; rfl))
     clear hcons
     go_enter Tryz.func82, Tryz.ntmps82
     go_wp2_with (first
      | (go_at_call 110; refine HC.out.mono ?_; rintro e W1 ⟨rfl, s1, t1⟩
         (
          obtain ⟨hx1, st1⟩ := Kcj 4 hq t1 s1
          have c0 := Kab (o := 0) hx1.p3 rfl
          have HX := yh (And.intro hx1 st1)
          have HN := yh (Kbm st1)
          rw [hr] at HN
          clear hx1 st1 s1 t1 HC))
      | (go_at_call 123; first
         | (refine HN2.out.mono ?_; rintro e W7 h7
            (
             obtain ⟨t7, hb7, x7, rfl, rfl, hstm⟩ := h7.some
             have hV7 := HX6.out.step t7
             have HST2 := yh (Kc6 (n := y) (Kab (o := 2) hV7.p3 rfl) (Kav (o := 2) hV7.p3))
             have hVn : BX 74 W q #[.int .i64 0, .int .i64 0, .int .i64 0, .int .i64 0, .slice none 0 0, .slice none 0 0, .int .i64 0, .int .i64 0, .int .i64 0, .string ⟨#[]⟩, .slice none 0 0] W1.heap.size #[.int .i64 4, .int .i64 x, .int .i64 y, .int .i64 0, .slice none 0 0, .slice none 0 0, .int .i64 0, .int .i64 0, .int .i64 0, .string ⟨#[]⟩, .slice none 0 0] (W7.setCell ⟨W1.heap.size, 2, none⟩ (.int .i64 y)) := by simpa using hV7.set 2 (.int .i64 y)
             have hstn := hV7.setR hstm 2 (.int .i64 y)
             obtain ⟨f1, f2, f3, f4, f5, f6, f7⟩ := hVn.fin Kb3 rfl rfl (by simp [Value.oneCell']) hstn
             have HL5 := yh f1
             have HS4 := yh f2
             have HLD := yh f3
             have HF := yh (And.intro f4 (And.intro f5 (And.intro f6 (cown_flat ((W7.setCell ⟨W1.heap.size, 2, none⟩ (.int .i64 y)).setRow W.heap.size #[.int .i64 4, .int .i64 x, .int .i64 y, .int .i64 0, .slice none 0 0, .slice none 0 0, .int .i64 0, .int .i64 0, .int .i64 0, .string ⟨#[]⟩, .slice none 0 0]) (fun b => W.heap.size ≤ b) 4 x y))))
             clear f1 f2 f3 f4 f5 f6 f7
             clear h7 t7 hb7 hstm hV7 hVn hstn HN2
             ))
         | (refine HN.out.mono ?_; rintro e W5 h5
            (
             obtain ⟨t5, hb5, x5, rfl, rfl, hstm⟩ := h5.some
             have hV5 := HX.out.1.step t5
             have HST := yh (Kc6 (n := x) (Kab (o := 1) hV5.p3 rfl) (Kav (o := 1) hV5.p3))
             have hV6 : BX 74 W q #[.int .i64 0, .int .i64 0, .int .i64 0, .int .i64 0, .slice none 0 0, .slice none 0 0, .int .i64 0, .int .i64 0, .int .i64 0, .string ⟨#[]⟩, .slice none 0 0] W1.heap.size #[.int .i64 4, .int .i64 x, .int .i64 0, .int .i64 0, .slice none 0 0, .slice none 0 0, .int .i64 0, .int .i64 0, .int .i64 0, .string ⟨#[]⟩, .slice none 0 0] (W5.setCell ⟨W1.heap.size, 1, none⟩ (.int .i64 x)) := by simpa using hV5.set 1 (.int .i64 x)
             have hst6 := hV5.setR hstm 1 (.int .i64 x)
             have HN2 := yh (Kbm hst6)
             rw [hr2] at HN2
             have HX6 := yh hV6
             clear h5 t5 hb5 hstm hV5 hV6 hst6 HN
             ))
         )
      | ((with_reducible apply Kad); exact HST.out; exact rfl; exact rfl; clear HST)
      | ((with_reducible apply Kad); exact HST2.out; exact rfl; exact rfl; clear HST2)
      | ((with_reducible apply Kal); exact HL5.out; exact rfl)
      | ((with_reducible apply Kad); exact HS4.out; exact rfl; exact rfl))
     refine bodyPost_ret (Kaj rfl _ _ ⟨W.heap.size, 0, none⟩ _ rfl HLD.out) rfl ?_
     exact Reads.of HE.out ⟨HF.out.2.1, HF.out.2.2.1, _, rfl, ⟨_, rfl, HF.out.2.2.2⟩, HF.out.1⟩
theorem rchange_bad {w W : World} {q : Nat} {l : List UInt8} (h : RSt 141 w W q l) (hl : l.length ≤ 1000000) (hlp : 0 < l.length) {c : Nat} (hc0 : (l[0]).toNat = c) (hc : 5 ≤ c) :
 Calls Tryz.prog 82 #[.pointer (some ⟨q, 0, none⟩)] W (Reads w W q (Ka5 l) (Kdt W)) := by
 have hb := Kac (w := W) (.cells #[.int .i64 0, .int .i64 0, .int .i64 0, .int .i64 0, .slice none 0 0, .slice none 0 0, .int .i64 0, .int .i64 0, .int .i64 0, .string ⟨#[]⟩, .slice none 0 0] 74)
 have hq := h.lt
 have hcons := Kcc hlp
 have hc256 := (l[0]).toNat_lt
 have HC := yh (Kcb (h.below hb) hlp)
 rw [hc0] at hcons hc256 HC
 have hrl : (l.drop 1).length ≤ 1000000 := by rw [List.length_drop]; omega
 generalize l.drop 1 = r at *
 rw [if_neg (by omega), if_neg (by omega), if_neg (by omega), if_neg (by omega)] at hcons
 have k0 : ((c : Int) == 0) = false := by rw [beq_eq_false_iff_ne]; omega
 have k1 : ((c : Int) == 1) = false := by rw [beq_eq_false_iff_ne]; omega
 have k2 : ((c : Int) == 2) = false := by rw [beq_eq_false_iff_ne]; omega
 have k3 : ((c : Int) == 3) = false := by rw [beq_eq_false_iff_ne]; omega
 have k4 : ((c : Int) == 4) = false := by rw [beq_eq_false_iff_ne]; omega
 clear hb h hc0
 have HE := yh hcons
 clear hcons
 go_enter Tryz.func82, Tryz.ntmps82
 ·go_wp2_with (first
   | (go_at_call 105; refine (Ka1 _).mono ?_; rintro e W2 ⟨rfl, rfl⟩)
   | (go_at_call 110; refine HC.out.mono ?_; rintro e W1 ⟨rfl, s1, t1⟩
      (
       obtain ⟨hx1, st1⟩ := Kcj (c : Int) hq t1 s1
       have c0 := Kab (o := 0) hx1.p3 rfl
       have HX := yh (And.intro hx1 st1)
       clear hx1 st1 s1 t1 HC)))
  exact ⟨rfl, Reads.of HE.out ⟨HX.out.1.tr, HX.out.2.b, rfl⟩⟩
theorem rchange_end {w W : World} {q : Nat} (h : RSt 141 w W q []) :
 Calls Tryz.prog 82 #[.pointer (some ⟨q, 0, none⟩)] W (Reads w W q (Ka5 []) (Kdt W)) := by
 have hb := Kac (w := W) (.cells #[.int .i64 0, .int .i64 0, .int .i64 0, .int .i64 0, .slice none 0 0, .slice none 0 0, .int .i64 0, .int .i64 0, .int .i64 0, .string ⟨#[]⟩, .slice none 0 0] 74)
 have HC := yh (byte_bad (h.below hb))
 have HB := yh (And.intro hb (Kaa h.b hb))
 have HE := yh (show Ka5 [] = none by rw [Ka5])
 clear hb h
 go_enter Tryz.func82, Tryz.ntmps82
 go_wp2_with (go_at_call 110; refine HC.out.mono ?_; rintro e W1 ⟨rfl, rfl⟩)
 exact ⟨rfl, Reads.of HE.out ⟨RTo.of_below HB.out.1, HB.out.2, rfl⟩⟩
theorem rchange_any {w W : World} {q : Nat} {l : List UInt8} (h : RSt 141 w W q l) (hl : l.length ≤ 1000000) :
 Calls Tryz.prog 82 #[.pointer (some ⟨q, 0, none⟩)] W (Reads w W q (Ka5 l) (Kdt W)) := by
 by_cases hlp : 0 < l.length
 ·have hc : (l[0]).toNat = 0 ∨ (l[0]).toNat = 1 ∨ (l[0]).toNat = 2 ∨ (l[0]).toNat = 3 ∨ (l[0]).toNat = 4 ∨ 5 ≤ (l[0]).toNat := by omega
  rcases hc with hc | hc | hc | hc | hc | hc
  ·exact rchange_node h hl hlp hc rfl
  ·exact rchange_rel h hl hlp hc rfl
  ·exact rchange_dn h hl hlp hc rfl
  ·exact rchange_dr h hl hlp hc rfl
  ·exact rchange_next h hl hlp hc rfl
  ·exact rchange_bad h hl hlp rfl hc
 ·obtain rfl : l = [] := List.eq_nil_of_length_eq_zero (by omega)
  exact rchange_end h
theorem rrowsR_any {α : Type} {E : World → (Nat → Prop) → α → Array Value → Prop} (hE : EL E 5) (d : Dec α) {w W : World} {q : Nat} {l : List UInt8} {kv0 : Value} (hl : l.length ≤ 1000000)
 (h : RSt 141 w W q l) (J : List α → World → Value → Prop) (Jx : World → Prop) (hJ : KeepJ w W q J) (hx : ∀ m W' kv, J m W' kv → Jx W') (h0 : J [] W kv0)
 (one : ∀ m W1 kv l', J m W1 kv → W.heap.size ≤ W1.heap.size → RSt 141 w W1 q l' → l'.length ≤ 1000000 → m.length ≤ 1000000 → Calls Tryz.prog 54 #[.pointer (some ⟨q, 0, none⟩)] W1 fun e W2 => match d l' with
   | some (x, s) => ∃ cs kv', e = .returned (.agg cs) ∧ ROne 141 E w W q J m W1 kv x s cs kv' W2 ∧ s.length ≤ l'.length
   | none => e = given ∧ Jx W2 ∧ Below w.heap.size w W2) :
 Calls Tryz.prog 53 #[.pointer (some ⟨q, 0, none⟩), .func (.func 54) #[.pointer (some ⟨q, 0, none⟩)] #[]] W (RPost 141 E 72 5 w W q J Jx l.length (Kas d l)) := by
 have hqW := h.lt
 have HN := yh (Kat h)
 have HO := yh one
 have HJ := yh hJ
 have HX := yh hx
 have H0 := yh h0
 clear one hJ hx h0 h
 cases hr : rdN 0 0 l with
 | none =>
   rw [hr] at HN
   clear HO
   go_enter Tryz.func53, Tryz.ntmps53
   go_wp2_with (go_at_call 55; refine HN.out.mono ?_; rintro e W1 h1; obtain ⟨t1, hb1, rfl⟩ := h1.none; have H1 := yh (And.intro t1 hb1); clear h1 t1 hb1)
   exact ⟨rfl, RPost.of_none (Kcl hr) ⟨HX.out _ _ _ (HJ.out.keep H0.out H1.out.1.size H1.out.2 (fun b hb hq _ => H1.out.1.keep b hb hq)), H1.out.2⟩⟩
 | some p =>
   obtain ⟨n, r⟩ := p
   rw [hr] at HN
   have hn := Kde hr
   have hrl : r.length ≤ l.length := by
    obtain ⟨h1, _⟩ := Kb8.sound _ _ _ hr
    rw [h1, List.length_append]; omega
   have z1 : (n : Int) < 18446744073709551616 := by omega
   have z2 : (r.length : Int) ≤ 1000000 := by omega
   by_cases hnr : n ≤ r.length
   ·have HRO := yh (Kdf (d := d) hr hnr)
    have g1 : (n : Int) ≤ (r.length : Int) := by omega
    go_enter Tryz.func53, Tryz.ntmps53
    go_wp2_with (first
     | (go_at_call 55; refine HN.out.mono ?_; rintro e W1 h1
        (
         obtain ⟨t1, hb1, v1, rfl, rfl, s1⟩ := h1.some
         obtain ⟨p1, c1, hbx, _⟩ := s1.box
         have hcq := Kab (o := 0) hbx rfl
         have H1 := yh (And.intro t1 (And.intro hb1 s1))
         clear h1 s1 t1 hb1 hbx))
     | (go_at_call 105; refine (Kap _).mono ?_; rintro e W2 ⟨rfl, rfl⟩))
    go_loopw [6, 21] (fun ov i wr => ∃ (m : List α) (a : Option Addr) (n1 c1 : Nat), m.length ≤ n ∧ i = .int .u64 (m.length : Int) ∧ ov = .slice a n1 c1 ∧ Hid (∃ kv l', RInv 141 E 72 5 w W q J m wr kv (.slice a n1 c1) l' ∧ RepAt d n r m l' ∧ l'.length ≤ r.length)) (fun _ i _ => n - (intOf i).toNat)
    case atStart => exact ⟨[], none, 0, 0, Nat.zero_le _, rfl, rfl, yh ⟨kv0, r, ⟨H1.out.2.2, HJ.out.keep H0.out H1.out.1.size H1.out.2.1 (fun b hb hq _ => H1.out.1.keep b hb hq), GIn.start, H1.out.1.size, hqW⟩, RepAt.start _ _ _, Nat.le_refl _⟩⟩
    case round =>
     obtain ⟨m, a, n1, c1, hm, rfl, rfl, HI⟩ := hrel
     obtain ⟨kv, l', hinv, hrep, hll⟩ := HI.out
     clear HI H1 HN H0 hcq
     by_cases hlt : m.length < n
     ·have g2 : (m.length : Int) < (n : Int) := by omega
      have hone := HO.out m wr kv l' hinv.j hinv.size hinv.st (by omega) (by omega)
      cases hd : d l' with
      | none =>
        rw [hd] at hone
        have hfail := hrep.fail hlt hd
        have HC := yh hone
        have HFL := yh (HRO.out.trans hfail)
        clear hone hinv hrep hfail
        go_wp2_with (go_at_call 54; refine HC.out.mono ?_; rintro e W2 ⟨rfl, hg, hbw⟩; have HG := yh (And.intro hg hbw); clear hg hbw HC)
        exact ⟨rfl, RPost.of_none HFL.out HG.out⟩
      | some p =>
        obtain ⟨x, s⟩ := p
        rw [hd] at hone
        have hstep := hrep.step hlt hd
        have HC := yh hone
        have HV := yh (And.intro hinv hstep)
        have hlt1 : m.length + 1 ≤ n := hlt
        have hm1 : m.length ≤ 1000000 := by omega
        clear hone hinv hrep hstep
        go_wp2_with (first
         | (go_at_call 54; refine HC.out.mono ?_; rintro e W2 ⟨cs, kv2, rfl, hone, hsl⟩
            (
             have hs := hE.size hone.it
             have hones := hE.ones hone.it
             have hbs := Kao (P := Tryz.prog) (w := W2.alloc (.cells cs 72)) (v := .agg cs) Tryz.underlying23 Tryz.sizeOf72 Tryz.zeroValue72 hs (by omega) (by omega)
             obtain ⟨v4, W4, ha, hinv4⟩ := HV.out.1.step hE gt_rel HJ.out hone hm1 23 (Kac (w := W2) (.cells cs 72))
             obtain ⟨a4, n4, c4, rfl⟩ : ∃ a4 n4 c4, v4 = .slice a4 n4 c4 := by obtain ⟨p, c, e⟩ := hinv4.row.slice; exact ⟨_, _, _, e⟩
             have HS := yh (StT.fresh Kd0 hs hones (W := W2))
             have HL := yh (StT.get Kd0 hs (heap_alloc_new W2 (.cells cs 72)))
             have HB := yh hbs
             have HA := yh ha
             have HR := yh (And.intro hinv4 (show s.length ≤ r.length by omega))
             clear hs hones hbs ha hinv4
             clear hone HC))
         | ((with_reducible apply Kad); exact HS.out _ rfl; exact rfl; exact rfl; clear HS)
         | ((with_reducible apply Kal); exact HL.out; exact rfl; clear HL)
         | ((with_reducible apply op_bs1); exact HB.out; exact rfl; clear HB)
         | ((with_reducible apply Kbc); exact HA.out; exact rfl; exact rfl))
        go_roundw
        case rel => exact ⟨m ++ [x], a4, n4, c4, by rw [List.length_append]; exact hlt1, by rw [List.length_append]; go_num, rfl, yh ⟨kv2, s, HR.out.1, HV.out.2, HR.out.2⟩⟩
        case measure => simp [intOf]; omega
     ·have hme : m.length = n := by omega
      have g2 : ¬ ((m.length : Int) < (n : Int)) := by omega
      have hdone := hrep.done hme
      have HD := yh (HRO.out.trans hdone)
      have HF := yh (And.intro hinv (show l'.length ≤ l.length by omega))
      clear hinv hrep hdone
      go_wp2
      go_ret
      exact RPost.of_some HD.out HF.out.1 HF.out.2
   ·have HRO := yh (Kca (d := d) hr hnr)
    have g1 : ¬ ((n : Int) ≤ (r.length : Int)) := by omega
    clear HO
    go_enter Tryz.func53, Tryz.ntmps53
    go_wp2_with (first
     | (go_at_call 55; refine HN.out.mono ?_; rintro e W1 h1
        (
         obtain ⟨t1, hb1, v1, rfl, rfl, s1⟩ := h1.some
         obtain ⟨p1, c1, hbx, _⟩ := s1.box
         have hcq := Kab (o := 0) hbx rfl
         have H1 := yh (And.intro t1 hb1)
         clear h1 s1 t1 hb1 hbx))
     | (go_at_call 105; refine (Ka1 _).mono ?_; rintro e W2 ⟨rfl, rfl⟩))
    exact ⟨rfl, RPost.of_none HRO.out ⟨HX.out _ _ _ (HJ.out.keep H0.out H1.out.1.size H1.out.2 (fun b hb hq _ => H1.out.1.keep b hb hq)), H1.out.2⟩⟩
theorem Kdq {α : Type} {E : World → (Nat → Prop) → α → Array Value → Prop} (hE : EL E 5) (d : Dec α) {w W : World} {q : Nat} {l : List UInt8} (hl : l.length ≤ 1000000)
 (h : RSt 141 w W q l)
 (one : ∀ W1 l', RSt 141 w W1 q l' → l'.length ≤ 1000000 → Calls Tryz.prog 54 #[.pointer (some ⟨q, 0, none⟩)] W1 (Reads w W1 q (d l') fun x v W2 => ∃ cs, v = .agg cs ∧ E W2 (fun b => W1.heap.size ≤ b) x cs))
 (hsh : ∀ l' x s, d l' = some (x, s) → s.length ≤ l'.length) :
 Calls Tryz.prog 53 #[.pointer (some ⟨q, 0, none⟩), .func (.func 54) #[.pointer (some ⟨q, 0, none⟩)] #[]] W (Reads w W q (Kas d l) fun xs v W' => GOwn E 72 5 W' (fun b => W.heap.size ≤ b) v xs) := by
 have hq := h.lt
 refine (rrowsR_any hE d (kv0 := .slice none 0 0) hl h (fun _ W' kv => RTo q W W' ∧ kv = .slice none 0 0) (fun W' => RTo q W W') ⟨?_, ?_⟩ (fun m W' kv hj => hj.1) ⟨RTo.refl _ _, rfl⟩ ?_).mono ?_
 ·rintro m W1 W2 kv ⟨h1, rfl⟩ h2 h3 h4
  exact ⟨⟨by have := h1.size; omega, fun b hb hqb => (h4 b (by have := h1.size; omega) hqb (.inl hb)).trans (h1.keep b hb hqb)⟩, rfl⟩
 ·rintro m W1 kv ⟨h1, rfl⟩ b hb
  simp [Value.ownBlock] at hb
 ·rintro m W1 kv l' ⟨h1, rfl⟩ hsz h2 h3 _
  refine (one W1 l' h2 h3).mono ?_
  intro e W2 hr
  cases hd : d l' with
  | none =>
    rw [hd] at hr
    obtain ⟨t, hb, he⟩ := hr.none
    exact ⟨he, h1.trans t, hb⟩
  | some p =>
    obtain ⟨x, s⟩ := p
    rw [hd] at hr
    obtain ⟨t, hb, v, he, ⟨cs, rfl, hit⟩, hst⟩ := hr.some
    exact ⟨cs, .slice none 0 0, he, ⟨t.size, fun b hb hqb _ _ => t.keep b hb hqb, hE.imp (fun b _ hp => ⟨hp, by simp [Value.ownBlock]⟩) hit, hst, ⟨h1.trans t, rfl⟩, .inl rfl⟩, hsh _ _ _ hd⟩
 ·intro e W' hr
  rcases hr.cases with ⟨h1, rfl, h2, h3⟩ | ⟨xs, s, v, kv, h1, rfl, hi, _⟩
  ·rw [h1]
   exact ⟨h2, h3, rfl⟩
  ·rw [h1]
   exact ⟨hi.j.1, hi.st.b, v, rfl, (hi.row.own hE).imp hE fun b _ hp => hp.1, hi.st⟩
theorem rrowsC_any {α : Type} {E : World → (Nat → Prop) → α → Array Value → Prop} (hE : EL E 11) (d : Dec α) {w W : World} {q : Nat} {l : List UInt8} {kv0 : Value} (hl : l.length ≤ 1000000)
 (h : RSt 141 w W q l) (J : List α → World → Value → Prop) (Jx : World → Prop) (hJ : KeepJ w W q J) (hx : ∀ m W' kv, J m W' kv → Jx W') (h0 : J [] W kv0)
 (one : ∀ m W1 kv l', J m W1 kv → W.heap.size ≤ W1.heap.size → RSt 141 w W1 q l' → l'.length ≤ 1000000 → m.length ≤ 1000000 → Calls Tryz.prog 82 #[.pointer (some ⟨q, 0, none⟩)] W1 fun e W2 => match d l' with
   | some (x, s) => ∃ cs kv', e = .returned (.agg cs) ∧ ROne 141 E w W q J m W1 kv x s cs kv' W2 ∧ s.length ≤ l'.length
   | none => e = given ∧ Jx W2 ∧ Below w.heap.size w W2) :
 Calls Tryz.prog 81 #[.pointer (some ⟨q, 0, none⟩), .func (.func 82) #[.pointer (some ⟨q, 0, none⟩)] #[]] W (RPost 141 E 74 11 w W q J Jx l.length (Kas d l)) := by
 have hqW := h.lt
 have HN := yh (Kat h)
 have HO := yh one
 have HJ := yh hJ
 have HX := yh hx
 have H0 := yh h0
 clear one hJ hx h0 h
 cases hr : rdN 0 0 l with
 | none =>
   rw [hr] at HN
   clear HO
   go_enter Tryz.func81, Tryz.ntmps81
   go_wp2_with (go_at_call 55; refine HN.out.mono ?_; rintro e W1 h1; obtain ⟨t1, hb1, rfl⟩ := h1.none; have H1 := yh (And.intro t1 hb1); clear h1 t1 hb1)
   exact ⟨rfl, RPost.of_none (Kcl hr) ⟨HX.out _ _ _ (HJ.out.keep H0.out H1.out.1.size H1.out.2 (fun b hb hq _ => H1.out.1.keep b hb hq)), H1.out.2⟩⟩
 | some p =>
   obtain ⟨n, r⟩ := p
   rw [hr] at HN
   have hn := Kde hr
   have hrl : r.length ≤ l.length := by
    obtain ⟨h1, _⟩ := Kb8.sound _ _ _ hr
    rw [h1, List.length_append]; omega
   have z1 : (n : Int) < 18446744073709551616 := by omega
   have z2 : (r.length : Int) ≤ 1000000 := by omega
   by_cases hnr : n ≤ r.length
   ·have HRO := yh (Kdf (d := d) hr hnr)
    have g1 : (n : Int) ≤ (r.length : Int) := by omega
    go_enter Tryz.func81, Tryz.ntmps81
    go_wp2_with (first
     | (go_at_call 55; refine HN.out.mono ?_; rintro e W1 h1
        (
         obtain ⟨t1, hb1, v1, rfl, rfl, s1⟩ := h1.some
         obtain ⟨p1, c1, hbx, _⟩ := s1.box
         have hcq := Kab (o := 0) hbx rfl
         have H1 := yh (And.intro t1 (And.intro hb1 s1))
         clear h1 s1 t1 hb1 hbx))
     | (go_at_call 105; refine (Kap _).mono ?_; rintro e W2 ⟨rfl, rfl⟩))
    go_loopw [6, 21] (fun ov i wr => ∃ (m : List α) (a : Option Addr) (n1 c1 : Nat), m.length ≤ n ∧ i = .int .u64 (m.length : Int) ∧ ov = .slice a n1 c1 ∧ Hid (∃ kv l', RInv 141 E 74 11 w W q J m wr kv (.slice a n1 c1) l' ∧ RepAt d n r m l' ∧ l'.length ≤ r.length)) (fun _ i _ => n - (intOf i).toNat)
    case atStart => exact ⟨[], none, 0, 0, Nat.zero_le _, rfl, rfl, yh ⟨kv0, r, ⟨H1.out.2.2, HJ.out.keep H0.out H1.out.1.size H1.out.2.1 (fun b hb hq _ => H1.out.1.keep b hb hq), GIn.start, H1.out.1.size, hqW⟩, RepAt.start _ _ _, Nat.le_refl _⟩⟩
    case round =>
     obtain ⟨m, a, n1, c1, hm, rfl, rfl, HI⟩ := hrel
     obtain ⟨kv, l', hinv, hrep, hll⟩ := HI.out
     clear HI H1 HN H0 hcq
     by_cases hlt : m.length < n
     ·have g2 : (m.length : Int) < (n : Int) := by omega
      have hone := HO.out m wr kv l' hinv.j hinv.size hinv.st (by omega) (by omega)
      cases hd : d l' with
      | none =>
        rw [hd] at hone
        have hfail := hrep.fail hlt hd
        have HC := yh hone
        have HFL := yh (HRO.out.trans hfail)
        clear hone hinv hrep hfail
        go_wp2_with (go_at_call 82; refine HC.out.mono ?_; rintro e W2 ⟨rfl, hg, hbw⟩; have HG := yh (And.intro hg hbw); clear hg hbw HC)
        exact ⟨rfl, RPost.of_none HFL.out HG.out⟩
      | some p =>
        obtain ⟨x, s⟩ := p
        rw [hd] at hone
        have hstep := hrep.step hlt hd
        have HC := yh hone
        have HV := yh (And.intro hinv hstep)
        have hlt1 : m.length + 1 ≤ n := hlt
        have hm1 : m.length ≤ 1000000 := by omega
        clear hone hinv hrep hstep
        go_wp2_with (first
         | (go_at_call 82; refine HC.out.mono ?_; rintro e W2 ⟨cs, kv2, rfl, hone, hsl⟩
            (
             have hs := hE.size hone.it
             have hones := hE.ones hone.it
             have hbs := Kao (P := Tryz.prog) (w := W2.alloc (.cells cs 74)) (v := .agg cs) Tryz.underlying58 Tryz.sizeOf74 Tryz.zeroValue74 hs (by omega) (by omega)
             obtain ⟨v4, W4, ha, hinv4⟩ := HV.out.1.step hE gt_change HJ.out hone hm1 58 (Kac (w := W2) (.cells cs 74))
             obtain ⟨a4, n4, c4, rfl⟩ : ∃ a4 n4 c4, v4 = .slice a4 n4 c4 := by obtain ⟨p, c, e⟩ := hinv4.row.slice; exact ⟨_, _, _, e⟩
             have HS := yh (StT.fresh Kb3 hs hones (W := W2))
             have HL := yh (StT.get Kb3 hs (heap_alloc_new W2 (.cells cs 74)))
             have HB := yh hbs
             have HA := yh ha
             have HR := yh (And.intro hinv4 (show s.length ≤ r.length by omega))
             clear hs hones hbs ha hinv4
             clear hone HC))
         | ((with_reducible apply Kad); exact HS.out _ rfl; exact rfl; exact rfl; clear HS)
         | ((with_reducible apply Kal); exact HL.out; exact rfl; clear HL)
         | ((with_reducible apply op_bs1); exact HB.out; exact rfl; clear HB)
         | ((with_reducible apply Kbc); exact HA.out; exact rfl; exact rfl))
        go_roundw
        case rel => exact ⟨m ++ [x], a4, n4, c4, by rw [List.length_append]; exact hlt1, by rw [List.length_append]; go_num, rfl, yh ⟨kv2, s, HR.out.1, HV.out.2, HR.out.2⟩⟩
        case measure => simp [intOf]; omega
     ·have hme : m.length = n := by omega
      have g2 : ¬ ((m.length : Int) < (n : Int)) := by omega
      have hdone := hrep.done hme
      have HD := yh (HRO.out.trans hdone)
      have HF := yh (And.intro hinv (show l'.length ≤ l.length by omega))
      clear hinv hrep hdone
      go_wp2
      go_ret
      exact RPost.of_some HD.out HF.out.1 HF.out.2
   ·have HRO := yh (Kca (d := d) hr hnr)
    have g1 : ¬ ((n : Int) ≤ (r.length : Int)) := by omega
    clear HO
    go_enter Tryz.func81, Tryz.ntmps81
    go_wp2_with (first
     | (go_at_call 55; refine HN.out.mono ?_; rintro e W1 h1
        (
         obtain ⟨t1, hb1, v1, rfl, rfl, s1⟩ := h1.some
         obtain ⟨p1, c1, hbx, _⟩ := s1.box
         have hcq := Kab (o := 0) hbx rfl
         have H1 := yh (And.intro t1 hb1)
         clear h1 s1 t1 hb1 hbx))
     | (go_at_call 105; refine (Ka1 _).mono ?_; rintro e W2 ⟨rfl, rfl⟩))
    exact ⟨rfl, RPost.of_none HRO.out ⟨HX.out _ _ _ (HJ.out.keep H0.out H1.out.1.size H1.out.2 (fun b hb hq _ => H1.out.1.keep b hb hq)), H1.out.2⟩⟩
theorem rrowsC_reads {α : Type} {E : World → (Nat → Prop) → α → Array Value → Prop} (hE : EL E 11) (d : Dec α) {w W : World} {q : Nat} {l : List UInt8} (hl : l.length ≤ 1000000)
 (h : RSt 141 w W q l)
 (one : ∀ W1 l', RSt 141 w W1 q l' → l'.length ≤ 1000000 → Calls Tryz.prog 82 #[.pointer (some ⟨q, 0, none⟩)] W1 (Reads w W1 q (d l') fun x v W2 => ∃ cs, v = .agg cs ∧ E W2 (fun b => W1.heap.size ≤ b) x cs))
 (hsh : ∀ l' x s, d l' = some (x, s) → s.length ≤ l'.length) :
 Calls Tryz.prog 81 #[.pointer (some ⟨q, 0, none⟩), .func (.func 82) #[.pointer (some ⟨q, 0, none⟩)] #[]] W (Reads w W q (Kas d l) fun xs v W' => GOwn E 74 11 W' (fun b => W.heap.size ≤ b) v xs) := by
 have hq := h.lt
 refine (rrowsC_any hE d (kv0 := .slice none 0 0) hl h (fun _ W' kv => RTo q W W' ∧ kv = .slice none 0 0) (fun W' => RTo q W W') ⟨?_, ?_⟩ (fun m W' kv hj => hj.1) ⟨RTo.refl _ _, rfl⟩ ?_).mono ?_
 ·rintro m W1 W2 kv ⟨h1, rfl⟩ h2 h3 h4
  exact ⟨⟨by have := h1.size; omega, fun b hb hqb => (h4 b (by have := h1.size; omega) hqb (.inl hb)).trans (h1.keep b hb hqb)⟩, rfl⟩
 ·rintro m W1 kv ⟨h1, rfl⟩ b hb
  simp [Value.ownBlock] at hb
 ·rintro m W1 kv l' ⟨h1, rfl⟩ hsz h2 h3 _
  refine (one W1 l' h2 h3).mono ?_
  intro e W2 hr
  cases hd : d l' with
  | none =>
    rw [hd] at hr
    obtain ⟨t, hb, he⟩ := hr.none
    exact ⟨he, h1.trans t, hb⟩
  | some p =>
    obtain ⟨x, s⟩ := p
    rw [hd] at hr
    obtain ⟨t, hb, v, he, ⟨cs, rfl, hit⟩, hst⟩ := hr.some
    exact ⟨cs, .slice none 0 0, he, ⟨t.size, fun b hb hqb _ _ => t.keep b hb hqb, hE.imp (fun b _ hp => ⟨hp, by simp [Value.ownBlock]⟩) hit, hst, ⟨h1.trans t, rfl⟩, .inl rfl⟩, hsh _ _ _ hd⟩
 ·intro e W' hr
  rcases hr.cases with ⟨h1, rfl, h2, h3⟩ | ⟨xs, s, v, kv, h1, rfl, hi, _⟩
  ·rw [h1]
   exact ⟨h2, h3, rfl⟩
  ·rw [h1]
   exact ⟨hi.j.1, hi.st.b, v, rfl, (hi.row.own hE).imp hE fun b _ hp => hp.1, hi.st⟩
theorem rt_nodes : RT (Kas Kdx) (rowsC nodeC) (fun l => u64T l.length ∧ ∀ x ∈ l, wfN x) := Kd8 rt_node fun n _ => nodeC_pos n
theorem rt_rels : RT (Kas rdRel) (rowsC relC) (fun l => u64T l.length ∧ ∀ x ∈ l, wfR x) := Kd8 rt_rel fun n _ => relC_pos n
theorem Kdn : EL GrOwn 4 := by
 refine ⟨?_, ?_, ?_, ?_⟩
 ·rintro w w' P p a hk ⟨vn, vr, rfl, h1, h2⟩; exact ⟨vn, vr, rfl, h1.keep Kbb hk, h2.keep Kcf hk⟩
 ·rintro w P P' p a hp ⟨vn, vr, rfl, h1, h2⟩; exact ⟨vn, vr, rfl, h1.imp Kbb hp, h2.imp Kcf hp⟩
 ·rintro w P p a ⟨vn, vr, rfl, h1, h2⟩; rfl
 ·rintro w P p a ⟨vn, vr, rfl, ⟨xs, h1, _⟩, ys, h2, _⟩ u hu
  have e1 := own_one h1
  have e2 := own_one h2
  simp only [List.mem_cons, List.not_mem_nil, or_false] at hu
  rcases hu with rfl | rfl | rfl | rfl <;> first | rfl | assumption
def okGraph (W : World) (p : GraphD) (x : Value) (W' : World) : Prop := ∃ cs, x = .agg cs ∧ GrOwn W' (fun b => W.heap.size ≤ b) p cs
theorem rdGraph_eq (l : List UInt8) : rdGraph l = match Kas Kdx l with
 | none => none
 | some (ns, r1) => match Kas rdRel r1 with
   | none => none
   | some (rs, r2) => match rdN 0 0 r2 with
     | none => none
     | some (a, r3) => match rdN 0 0 r3 with
       | none => none
       | some (b, r4) => some (⟨ns, rs, toI a, toI b⟩, r4) := by
 unfold rdGraph
 cases h1 : Kas Kdx l with
 | none => simp only; exact map_n (seq_n1 h1)
 | some p1 =>
   obtain ⟨ns, r1⟩ := p1
   simp only
   cases h2 : Kas rdRel r1 with
   | none => simp only; exact map_n (Kcm h1 (seq_n1 h2))
   | some p2 =>
     obtain ⟨rs, r2⟩ := p2
     simp only
     cases h3 : rdN 0 0 r2 with
     | none => simp only; exact map_n (Kcm h1 (Kcm h2 (seq_n1 (map_n h3))))
     | some p3 =>
       obtain ⟨a, r3⟩ := p3
       simp only
       cases h4 : rdN 0 0 r3 with
       | none => simp only; exact map_n (Kcm h1 (Kcm h2 (Kcm (map_s h3) (map_n h4))))
       | some p4 =>
         obtain ⟨b, r4⟩ := p4
         simp only
         exact map_s (seq_s h1 (seq_s h2 (seq_s (map_s h3) (map_s h4))))
theorem rgraph_any {w W : World} {q : Nat} {l : List UInt8} (h : RSt 141 w W q l) (hl : l.length ≤ 1000000) :
 Calls Tryz.prog 50 #[.pointer (some ⟨q, 0, none⟩)] W (Reads w W q (rdGraph l) (okGraph W)) := by
 have hq := h.lt
 have hx0 : BX 25 W q #[.slice none 0 0, .slice none 0 0, .int .i64 0, .int .i64 0] (W.heap.size + 1) #[.slice none 0 0, .slice none 0 0, .int .i64 0, .int .i64 0] ((W.alloc (.cells #[.slice none 0 0, .slice none 0 0, .int .i64 0, .int .i64 0] 25)).alloc (.cells #[.slice none 0 0, .slice none 0 0, .int .i64 0, .int .i64 0] 25)) := by
  have h := BX.start (T := 25) (z := #[.slice none 0 0, .slice none 0 0, .int .i64 0, .int .i64 0]) (cs := #[.slice none 0 0, .slice none 0 0, .int .i64 0, .int .i64 0]) hq (RTo.refl q (W.alloc (.cells #[.slice none 0 0, .slice none 0 0, .int .i64 0, .int .i64 0] 25)))
  simp only [World.size_alloc] at h
  exact h
 have hb0 : Below W.heap.size W ((W.alloc (.cells #[.slice none 0 0, .slice none 0 0, .int .i64 0, .int .i64 0] 25)).alloc (.cells #[.slice none 0 0, .slice none 0 0, .int .i64 0, .int .i64 0] 25)) := (Kac _).alloc (by simp) _
 have HR0 := yh (rrowsN_reads Kbb Kdx hl (h.below hb0) (fun W1 l' h1 h2 => rnode_any h1 h2) (fun l' x s hd => rt_node.le hd))
 have HX0 := yh hx0
 clear hb0 h hx0
 have he := rdGraph_eq l
 cases hr0 : Kas Kdx l with
 | none =>
   rw [hr0] at HR0 he
   simp only at he
   have HE := yh he
   clear he
   go_enter Tryz.func50, Tryz.ntmps50
   go_wp2_with (first
    | (go_at_call 51; (refine HR0.out.mono ?_; rintro e V1 h1; obtain ⟨t, hb, rfl⟩ := h1.none; have HBAD := yh (And.intro t hb); clear h1 t hb)))
   exact ⟨rfl, Reads.of HE.out ⟨HX0.out.tr.trans HBAD.out.1, HBAD.out.2, rfl⟩⟩
 | some pp0 =>
   obtain ⟨ns, r1⟩ := pp0
   have hl1 := rt_nodes.le hr0
   rw [hr0] at HR0 he
   simp only at he
   cases hr1 : Kas rdRel r1 with
   | none =>
     rw [hr1] at he
     simp only at he
     have HE := yh he
     clear he
     go_enter Tryz.func50, Tryz.ntmps50
     go_wp2_with (first
      | (go_at_call 51; (
          refine HR0.out.mono ?_
          rintro e V1 h1
          obtain ⟨t, hb, x, rfl, how, sv⟩ := h1.some
          obtain ⟨p1, c1, rfl⟩ := how.slice
          have hx := HX0.out.step t
          have hx2 : BX 25 W q #[.slice none 0 0, .slice none 0 0, .int .i64 0, .int .i64 0] (W.heap.size + 1) #[.slice p1 ns.length c1, .slice none 0 0, .int .i64 0, .int .i64 0] (V1.setCell ⟨W.heap.size + 1, 0, none⟩ (.slice p1 ns.length c1)) := by simpa using hx.set 0 (.slice p1 ns.length c1)
          have sv2 := hx.setR sv 0 (.slice p1 ns.length c1)
          have HS0 := yh (Kd1 (p := p1) (n := ns.length) (c := c1) (Kab (o := 0) hx.p3 rfl) (Kav (o := 0) hx.p3))
          have hq2 := hx.ql
          have hlt := HX0.out.lt
          have ho1 : GOwn NOwn 70 3 (V1.setCell ⟨W.heap.size + 1, 0, none⟩ (.slice p1 ns.length c1)) (fun b => W.heap.size + 2 ≤ b) (.slice p1 ns.length c1) ns := (how.keep Kbb fun b hb1 hl => Below.heap_setCell _ _ _ _ (by show b ≠ W.heap.size + 1; have hs0 : ((W.alloc (.cells #[.slice none 0 0, .slice none 0 0, .int .i64 0, .int .i64 0] 25)).alloc (.cells #[.slice none 0 0, .slice none 0 0, .int .i64 0, .int .i64 0] 25)).heap.size = W.heap.size + 2 := (by simp); omega)).imp Kbb fun b _ hb1 => by have hs0 : ((W.alloc (.cells #[.slice none 0 0, .slice none 0 0, .int .i64 0, .int .i64 0] 25)).alloc (.cells #[.slice none 0 0, .slice none 0 0, .int .i64 0, .int .i64 0] 25)).heap.size = W.heap.size + 2 := (by simp); omega
          have HX1 := yh (And.intro hx2 ho1)
          have HR1 := yh (Kdq Kcf rdRel (by omega) sv2 (fun W1 l' h1 h2 => rrel_any h1 h2) (fun l' x s hd => rt_rel.le hd))
          rw [hr1] at HR1
          clear h1 t hb sv hx hx2 sv2 hq2 hlt HR0 how ho1))
      | ((with_reducible apply Kad); exact HS0.out; exact rfl; exact rfl; clear HS0)
      | (go_at_call 53; (refine HR1.out.mono ?_; rintro e V2 h2; obtain ⟨t, hb, rfl⟩ := h2.none; have HBAD := yh (And.intro t hb); clear h2 t hb)))
     exact ⟨rfl, Reads.of HE.out ⟨HX1.out.1.tr.trans HBAD.out.1, HBAD.out.2, rfl⟩⟩
   | some pp1 =>
     obtain ⟨rs, r2⟩ := pp1
     have hl2 := rt_rels.le hr1
     rw [hr1] at he
     simp only at he
     cases hr2 : rdN 0 0 r2 with
     | none =>
       rw [hr2] at he
       simp only at he
       have HE := yh he
       clear he
       go_enter Tryz.func50, Tryz.ntmps50
       go_wp2_with (first
        | (go_at_call 51; (
            refine HR0.out.mono ?_
            rintro e V1 h1
            obtain ⟨t, hb, x, rfl, how, sv⟩ := h1.some
            obtain ⟨p1, c1, rfl⟩ := how.slice
            have hx := HX0.out.step t
            have hx2 : BX 25 W q #[.slice none 0 0, .slice none 0 0, .int .i64 0, .int .i64 0] (W.heap.size + 1) #[.slice p1 ns.length c1, .slice none 0 0, .int .i64 0, .int .i64 0] (V1.setCell ⟨W.heap.size + 1, 0, none⟩ (.slice p1 ns.length c1)) := by simpa using hx.set 0 (.slice p1 ns.length c1)
            have sv2 := hx.setR sv 0 (.slice p1 ns.length c1)
            have HS0 := yh (Kd1 (p := p1) (n := ns.length) (c := c1) (Kab (o := 0) hx.p3 rfl) (Kav (o := 0) hx.p3))
            have hq2 := hx.ql
            have hlt := HX0.out.lt
            have ho1 : GOwn NOwn 70 3 (V1.setCell ⟨W.heap.size + 1, 0, none⟩ (.slice p1 ns.length c1)) (fun b => W.heap.size + 2 ≤ b) (.slice p1 ns.length c1) ns := (how.keep Kbb fun b hb1 hl => Below.heap_setCell _ _ _ _ (by show b ≠ W.heap.size + 1; have hs0 : ((W.alloc (.cells #[.slice none 0 0, .slice none 0 0, .int .i64 0, .int .i64 0] 25)).alloc (.cells #[.slice none 0 0, .slice none 0 0, .int .i64 0, .int .i64 0] 25)).heap.size = W.heap.size + 2 := (by simp); omega)).imp Kbb fun b _ hb1 => by have hs0 : ((W.alloc (.cells #[.slice none 0 0, .slice none 0 0, .int .i64 0, .int .i64 0] 25)).alloc (.cells #[.slice none 0 0, .slice none 0 0, .int .i64 0, .int .i64 0] 25)).heap.size = W.heap.size + 2 := (by simp); omega
            have HX1 := yh (And.intro hx2 ho1)
            have HR1 := yh (Kdq Kcf rdRel (by omega) sv2 (fun W1 l' h1 h2 => rrel_any h1 h2) (fun l' x s hd => rt_rel.le hd))
            rw [hr1] at HR1
            clear h1 t hb sv hx hx2 sv2 hq2 hlt HR0 how ho1))
        | ((with_reducible apply Kad); exact HS0.out; exact rfl; exact rfl; clear HS0)
        | (go_at_call 53; (
            refine HR1.out.mono ?_
            rintro e V2 h2
            obtain ⟨t, hb, x, rfl, how, sv⟩ := h2.some
            obtain ⟨p2, c2, rfl⟩ := how.slice
            have hx := HX1.out.1.step t
            have hx2 : BX 25 W q #[.slice none 0 0, .slice none 0 0, .int .i64 0, .int .i64 0] (W.heap.size + 1) #[.slice p1 ns.length c1, .slice p2 rs.length c2, .int .i64 0, .int .i64 0] (V2.setCell ⟨W.heap.size + 1, 1, none⟩ (.slice p2 rs.length c2)) := by simpa using hx.set 1 (.slice p2 rs.length c2)
            have sv2 := hx.setR sv 1 (.slice p2 rs.length c2)
            have HS1 := yh (put_rels (p := p2) (n := rs.length) (c := c2) (Kab (o := 1) hx.p3 rfl) (Kav (o := 1) hx.p3))
            have hq2 := hx.ql
            have hlt := HX1.out.1.lt
            have ho1 : GOwn NOwn 70 3 (V2.setCell ⟨W.heap.size + 1, 1, none⟩ (.slice p2 rs.length c2)) (fun b => W.heap.size + 2 ≤ b) (.slice p1 ns.length c1) ns := HX1.out.2.keep Kbb fun b hb1 hl => (Below.heap_setCell _ _ _ _ (by show b ≠ W.heap.size + 1; omega)).trans (t.keep b hl (by omega))
            have ho2 : GOwn ROwn 72 5 (V2.setCell ⟨W.heap.size + 1, 1, none⟩ (.slice p2 rs.length c2)) (fun b => W.heap.size + 2 ≤ b) (.slice p2 rs.length c2) rs := (how.keep Kcf fun b hb1 hl => Below.heap_setCell _ _ _ _ (by show b ≠ W.heap.size + 1; skip; omega)).imp Kcf fun b _ hb1 => by have := HX1.out.1.lt; omega
            have HX2 := yh (And.intro hx2 (And.intro ho1 ho2))
            have HR2 := yh (Kat sv2)
            rw [hr2] at HR2
            clear h2 t hb sv hx hx2 sv2 hq2 hlt HR1 how ho1 ho2))
        | ((with_reducible apply Kad); exact HS1.out; exact rfl; exact rfl; clear HS1)
        | (go_at_call 55; (refine HR2.out.mono ?_; rintro e V3 h3; obtain ⟨t, hb, rfl⟩ := h3.none; have HBAD := yh (And.intro t hb); clear h3 t hb)))
       exact ⟨rfl, Reads.of HE.out ⟨HX2.out.1.tr.trans HBAD.out.1, HBAD.out.2, rfl⟩⟩
     | some pp2 =>
       obtain ⟨a, r3⟩ := pp2
       have hl3 := rdN_le hr2
       rw [hr2] at he
       simp only at he
       have HCV2 := yh (fun W' : World => conv_i64 (Kde hr2) W')
       cases hr3 : rdN 0 0 r3 with
       | none =>
         rw [hr3] at he
         simp only at he
         have HE := yh he
         clear he
         go_enter Tryz.func50, Tryz.ntmps50
         go_wp2_with (first
          | (go_at_call 51; (
              refine HR0.out.mono ?_
              rintro e V1 h1
              obtain ⟨t, hb, x, rfl, how, sv⟩ := h1.some
              obtain ⟨p1, c1, rfl⟩ := how.slice
              have hx := HX0.out.step t
              have hx2 : BX 25 W q #[.slice none 0 0, .slice none 0 0, .int .i64 0, .int .i64 0] (W.heap.size + 1) #[.slice p1 ns.length c1, .slice none 0 0, .int .i64 0, .int .i64 0] (V1.setCell ⟨W.heap.size + 1, 0, none⟩ (.slice p1 ns.length c1)) := by simpa using hx.set 0 (.slice p1 ns.length c1)
              have sv2 := hx.setR sv 0 (.slice p1 ns.length c1)
              have HS0 := yh (Kd1 (p := p1) (n := ns.length) (c := c1) (Kab (o := 0) hx.p3 rfl) (Kav (o := 0) hx.p3))
              have hq2 := hx.ql
              have hlt := HX0.out.lt
              have ho1 : GOwn NOwn 70 3 (V1.setCell ⟨W.heap.size + 1, 0, none⟩ (.slice p1 ns.length c1)) (fun b => W.heap.size + 2 ≤ b) (.slice p1 ns.length c1) ns := (how.keep Kbb fun b hb1 hl => Below.heap_setCell _ _ _ _ (by show b ≠ W.heap.size + 1; have hs0 : ((W.alloc (.cells #[.slice none 0 0, .slice none 0 0, .int .i64 0, .int .i64 0] 25)).alloc (.cells #[.slice none 0 0, .slice none 0 0, .int .i64 0, .int .i64 0] 25)).heap.size = W.heap.size + 2 := (by simp); omega)).imp Kbb fun b _ hb1 => by have hs0 : ((W.alloc (.cells #[.slice none 0 0, .slice none 0 0, .int .i64 0, .int .i64 0] 25)).alloc (.cells #[.slice none 0 0, .slice none 0 0, .int .i64 0, .int .i64 0] 25)).heap.size = W.heap.size + 2 := (by simp); omega
              have HX1 := yh (And.intro hx2 ho1)
              have HR1 := yh (Kdq Kcf rdRel (by omega) sv2 (fun W1 l' h1 h2 => rrel_any h1 h2) (fun l' x s hd => rt_rel.le hd))
              rw [hr1] at HR1
              clear h1 t hb sv hx hx2 sv2 hq2 hlt HR0 how ho1))
          | ((with_reducible apply Kad); exact HS0.out; exact rfl; exact rfl; clear HS0)
          | (go_at_call 53; (
              refine HR1.out.mono ?_
              rintro e V2 h2
              obtain ⟨t, hb, x, rfl, how, sv⟩ := h2.some
              obtain ⟨p2, c2, rfl⟩ := how.slice
              have hx := HX1.out.1.step t
              have hx2 : BX 25 W q #[.slice none 0 0, .slice none 0 0, .int .i64 0, .int .i64 0] (W.heap.size + 1) #[.slice p1 ns.length c1, .slice p2 rs.length c2, .int .i64 0, .int .i64 0] (V2.setCell ⟨W.heap.size + 1, 1, none⟩ (.slice p2 rs.length c2)) := by simpa using hx.set 1 (.slice p2 rs.length c2)
              have sv2 := hx.setR sv 1 (.slice p2 rs.length c2)
              have HS1 := yh (put_rels (p := p2) (n := rs.length) (c := c2) (Kab (o := 1) hx.p3 rfl) (Kav (o := 1) hx.p3))
              have hq2 := hx.ql
              have hlt := HX1.out.1.lt
              have ho1 : GOwn NOwn 70 3 (V2.setCell ⟨W.heap.size + 1, 1, none⟩ (.slice p2 rs.length c2)) (fun b => W.heap.size + 2 ≤ b) (.slice p1 ns.length c1) ns := HX1.out.2.keep Kbb fun b hb1 hl => (Below.heap_setCell _ _ _ _ (by show b ≠ W.heap.size + 1; omega)).trans (t.keep b hl (by omega))
              have ho2 : GOwn ROwn 72 5 (V2.setCell ⟨W.heap.size + 1, 1, none⟩ (.slice p2 rs.length c2)) (fun b => W.heap.size + 2 ≤ b) (.slice p2 rs.length c2) rs := (how.keep Kcf fun b hb1 hl => Below.heap_setCell _ _ _ _ (by show b ≠ W.heap.size + 1; skip; omega)).imp Kcf fun b _ hb1 => by have := HX1.out.1.lt; omega
              have HX2 := yh (And.intro hx2 (And.intro ho1 ho2))
              have HR2 := yh (Kat sv2)
              rw [hr2] at HR2
              clear h2 t hb sv hx hx2 sv2 hq2 hlt HR1 how ho1 ho2))
          | ((with_reducible apply Kad); exact HS1.out; exact rfl; exact rfl; clear HS1)
          | (go_at_call 55; (
              refine HR2.out.mono ?_
              rintro e V3 h3
              obtain ⟨t, hb, x, rfl, rfl, sv⟩ := h3.some
              have hx := HX2.out.1.step t
              have hx2 : BX 25 W q #[.slice none 0 0, .slice none 0 0, .int .i64 0, .int .i64 0] (W.heap.size + 1) #[.slice p1 ns.length c1, .slice p2 rs.length c2, .int .i64 (toI a), .int .i64 0] (V3.setCell ⟨W.heap.size + 1, 2, none⟩ (.int .i64 (toI a))) := by simpa using hx.set 2 (.int .i64 (toI a))
              have sv2 := hx.setR sv 2 (.int .i64 (toI a))
              have HS2 := yh (Kc6 (n := toI a) (Kab (o := 2) hx.p3 rfl) (Kav (o := 2) hx.p3))
              have hq2 := hx.ql
              have hlt := HX2.out.1.lt
              have ho1 : GOwn NOwn 70 3 (V3.setCell ⟨W.heap.size + 1, 2, none⟩ (.int .i64 (toI a))) (fun b => W.heap.size + 2 ≤ b) (.slice p1 ns.length c1) ns := HX2.out.2.1.keep Kbb fun b hb1 hl => (Below.heap_setCell _ _ _ _ (by show b ≠ W.heap.size + 1; omega)).trans (t.keep b hl (by omega))
              have ho2 : GOwn ROwn 72 5 (V3.setCell ⟨W.heap.size + 1, 2, none⟩ (.int .i64 (toI a))) (fun b => W.heap.size + 2 ≤ b) (.slice p2 rs.length c2) rs := HX2.out.2.2.keep Kcf fun b hb1 hl => (Below.heap_setCell _ _ _ _ (by show b ≠ W.heap.size + 1; omega)).trans (t.keep b hl (by omega))
              have HX3 := yh (And.intro hx2 (And.intro ho1 ho2))
              have HR3 := yh (Kat sv2)
              rw [hr3] at HR3
              clear h3 t hb sv hx hx2 sv2 hq2 hlt HR2  ho1 ho2))
          | ((with_reducible apply Kad); exact HS2.out; exact rfl; exact rfl; clear HS2)
          | ((with_reducible apply Kby); exact HCV2.out _; exact rfl)
          | (go_at_call 55; (refine HR3.out.mono ?_; rintro e V4 h4; obtain ⟨t, hb, rfl⟩ := h4.none; have HBAD := yh (And.intro t hb); clear h4 t hb)))
         exact ⟨rfl, Reads.of HE.out ⟨HX3.out.1.tr.trans HBAD.out.1, HBAD.out.2, rfl⟩⟩
       | some pp3 =>
         obtain ⟨b, r4⟩ := pp3
         have hl4 := rdN_le hr3
         rw [hr3] at he
         simp only at he
         have HCV3 := yh (fun W' : World => conv_i64 (Kde hr3) W')
         have HE := yh he
         clear he
         go_enter Tryz.func50, Tryz.ntmps50
         go_wp2_with (first
          | (go_at_call 51; (
              refine HR0.out.mono ?_
              rintro e V1 h1
              obtain ⟨t, hb, x, rfl, how, sv⟩ := h1.some
              obtain ⟨p1, c1, rfl⟩ := how.slice
              have hx := HX0.out.step t
              have hx2 : BX 25 W q #[.slice none 0 0, .slice none 0 0, .int .i64 0, .int .i64 0] (W.heap.size + 1) #[.slice p1 ns.length c1, .slice none 0 0, .int .i64 0, .int .i64 0] (V1.setCell ⟨W.heap.size + 1, 0, none⟩ (.slice p1 ns.length c1)) := by simpa using hx.set 0 (.slice p1 ns.length c1)
              have sv2 := hx.setR sv 0 (.slice p1 ns.length c1)
              have HS0 := yh (Kd1 (p := p1) (n := ns.length) (c := c1) (Kab (o := 0) hx.p3 rfl) (Kav (o := 0) hx.p3))
              have hq2 := hx.ql
              have hlt := HX0.out.lt
              have ho1 : GOwn NOwn 70 3 (V1.setCell ⟨W.heap.size + 1, 0, none⟩ (.slice p1 ns.length c1)) (fun b => W.heap.size + 2 ≤ b) (.slice p1 ns.length c1) ns := (how.keep Kbb fun b hb1 hl => Below.heap_setCell _ _ _ _ (by show b ≠ W.heap.size + 1; have hs0 : ((W.alloc (.cells #[.slice none 0 0, .slice none 0 0, .int .i64 0, .int .i64 0] 25)).alloc (.cells #[.slice none 0 0, .slice none 0 0, .int .i64 0, .int .i64 0] 25)).heap.size = W.heap.size + 2 := (by simp); omega)).imp Kbb fun b _ hb1 => by have hs0 : ((W.alloc (.cells #[.slice none 0 0, .slice none 0 0, .int .i64 0, .int .i64 0] 25)).alloc (.cells #[.slice none 0 0, .slice none 0 0, .int .i64 0, .int .i64 0] 25)).heap.size = W.heap.size + 2 := (by simp); omega
              have HX1 := yh (And.intro hx2 ho1)
              have HR1 := yh (Kdq Kcf rdRel (by omega) sv2 (fun W1 l' h1 h2 => rrel_any h1 h2) (fun l' x s hd => rt_rel.le hd))
              rw [hr1] at HR1
              clear h1 t hb sv hx hx2 sv2 hq2 hlt HR0 how ho1))
          | ((with_reducible apply Kad); exact HS0.out; exact rfl; exact rfl; clear HS0)
          | (go_at_call 53; (
              refine HR1.out.mono ?_
              rintro e V2 h2
              obtain ⟨t, hb, x, rfl, how, sv⟩ := h2.some
              obtain ⟨p2, c2, rfl⟩ := how.slice
              have hx := HX1.out.1.step t
              have hx2 : BX 25 W q #[.slice none 0 0, .slice none 0 0, .int .i64 0, .int .i64 0] (W.heap.size + 1) #[.slice p1 ns.length c1, .slice p2 rs.length c2, .int .i64 0, .int .i64 0] (V2.setCell ⟨W.heap.size + 1, 1, none⟩ (.slice p2 rs.length c2)) := by simpa using hx.set 1 (.slice p2 rs.length c2)
              have sv2 := hx.setR sv 1 (.slice p2 rs.length c2)
              have HS1 := yh (put_rels (p := p2) (n := rs.length) (c := c2) (Kab (o := 1) hx.p3 rfl) (Kav (o := 1) hx.p3))
              have hq2 := hx.ql
              have hlt := HX1.out.1.lt
              have ho1 : GOwn NOwn 70 3 (V2.setCell ⟨W.heap.size + 1, 1, none⟩ (.slice p2 rs.length c2)) (fun b => W.heap.size + 2 ≤ b) (.slice p1 ns.length c1) ns := HX1.out.2.keep Kbb fun b hb1 hl => (Below.heap_setCell _ _ _ _ (by show b ≠ W.heap.size + 1; omega)).trans (t.keep b hl (by omega))
              have ho2 : GOwn ROwn 72 5 (V2.setCell ⟨W.heap.size + 1, 1, none⟩ (.slice p2 rs.length c2)) (fun b => W.heap.size + 2 ≤ b) (.slice p2 rs.length c2) rs := (how.keep Kcf fun b hb1 hl => Below.heap_setCell _ _ _ _ (by show b ≠ W.heap.size + 1; skip; omega)).imp Kcf fun b _ hb1 => by have := HX1.out.1.lt; omega
              have HX2 := yh (And.intro hx2 (And.intro ho1 ho2))
              have HR2 := yh (Kat sv2)
              rw [hr2] at HR2
              clear h2 t hb sv hx hx2 sv2 hq2 hlt HR1 how ho1 ho2))
          | ((with_reducible apply Kad); exact HS1.out; exact rfl; exact rfl; clear HS1)
          | (go_at_call 55; (
              refine HR2.out.mono ?_
              rintro e V3 h3
              obtain ⟨t, hb, x, rfl, rfl, sv⟩ := h3.some
              have hx := HX2.out.1.step t
              have hx2 : BX 25 W q #[.slice none 0 0, .slice none 0 0, .int .i64 0, .int .i64 0] (W.heap.size + 1) #[.slice p1 ns.length c1, .slice p2 rs.length c2, .int .i64 (toI a), .int .i64 0] (V3.setCell ⟨W.heap.size + 1, 2, none⟩ (.int .i64 (toI a))) := by simpa using hx.set 2 (.int .i64 (toI a))
              have sv2 := hx.setR sv 2 (.int .i64 (toI a))
              have HS2 := yh (Kc6 (n := toI a) (Kab (o := 2) hx.p3 rfl) (Kav (o := 2) hx.p3))
              have hq2 := hx.ql
              have hlt := HX2.out.1.lt
              have ho1 : GOwn NOwn 70 3 (V3.setCell ⟨W.heap.size + 1, 2, none⟩ (.int .i64 (toI a))) (fun b => W.heap.size + 2 ≤ b) (.slice p1 ns.length c1) ns := HX2.out.2.1.keep Kbb fun b hb1 hl => (Below.heap_setCell _ _ _ _ (by show b ≠ W.heap.size + 1; omega)).trans (t.keep b hl (by omega))
              have ho2 : GOwn ROwn 72 5 (V3.setCell ⟨W.heap.size + 1, 2, none⟩ (.int .i64 (toI a))) (fun b => W.heap.size + 2 ≤ b) (.slice p2 rs.length c2) rs := HX2.out.2.2.keep Kcf fun b hb1 hl => (Below.heap_setCell _ _ _ _ (by show b ≠ W.heap.size + 1; omega)).trans (t.keep b hl (by omega))
              have HX3 := yh (And.intro hx2 (And.intro ho1 ho2))
              have HR3 := yh (Kat sv2)
              rw [hr3] at HR3
              clear h3 t hb sv hx hx2 sv2 hq2 hlt HR2  ho1 ho2))
          | ((with_reducible apply Kad); exact HS2.out; exact rfl; exact rfl; clear HS2)
          | ((with_reducible apply Kby); exact HCV2.out _; exact rfl)
          | (go_at_call 55; (
              refine HR3.out.mono ?_
              rintro e V4 h4
              obtain ⟨t, hb, x, rfl, rfl, sv⟩ := h4.some
              have hx := HX3.out.1.step t
              have hx2 : BX 25 W q #[.slice none 0 0, .slice none 0 0, .int .i64 0, .int .i64 0] (W.heap.size + 1) #[.slice p1 ns.length c1, .slice p2 rs.length c2, .int .i64 (toI a), .int .i64 (toI b)] (V4.setCell ⟨W.heap.size + 1, 3, none⟩ (.int .i64 (toI b))) := by simpa using hx.set 3 (.int .i64 (toI b))
              have sv2 := hx.setR sv 3 (.int .i64 (toI b))
              have HS3 := yh (Kc6 (n := toI b) (Kab (o := 3) hx.p3 rfl) (Kav (o := 3) hx.p3))
              have hq2 := hx.ql
              have hlt := HX3.out.1.lt
              have ho1 : GOwn NOwn 70 3 (V4.setCell ⟨W.heap.size + 1, 3, none⟩ (.int .i64 (toI b))) (fun b => W.heap.size + 2 ≤ b) (.slice p1 ns.length c1) ns := HX3.out.2.1.keep Kbb fun b hb1 hl => (Below.heap_setCell _ _ _ _ (by show b ≠ W.heap.size + 1; omega)).trans (t.keep b hl (by omega))
              have ho2 : GOwn ROwn 72 5 (V4.setCell ⟨W.heap.size + 1, 3, none⟩ (.int .i64 (toI b))) (fun b => W.heap.size + 2 ≤ b) (.slice p2 rs.length c2) rs := HX3.out.2.2.keep Kcf fun b hb1 hl => (Below.heap_setCell _ _ _ _ (by show b ≠ W.heap.size + 1; omega)).trans (t.keep b hl (by omega))
              have HX4 := yh (And.intro hx2 (And.intro ho1 ho2))
              obtain ⟨f1, f2, f3, f4, f5, f6, f7⟩ := hx2.fin Kbt rfl rfl (by simp [Value.oneCell']) sv2
              have HL5 := yh f1
              have HS5 := yh f2
              have HLD := yh f3
              have hno : GrOwn ((V4.setCell ⟨W.heap.size + 1, 3, none⟩ (.int .i64 (toI b))).setRow W.heap.size #[.slice p1 ns.length c1, .slice p2 rs.length c2, .int .i64 (toI a), .int .i64 (toI b)]) (fun b => W.heap.size ≤ b) ⟨ns, rs, toI a, toI b⟩ #[.slice p1 ns.length c1, .slice p2 rs.length c2, .int .i64 (toI a), .int .i64 (toI b)] := ⟨_, _, rfl, (ho1.keep Kbb fun b hb1 hl => f7 b (by omega)).imp Kbb fun b _ hb1 => by omega, (ho2.keep Kcf fun b hb1 hl => f7 b (by omega)).imp Kcf fun b _ hb1 => by omega⟩
              have HF := yh (And.intro f4 (And.intro f5 (And.intro f6 hno)))
              clear f1 f2 f3 f4 f5 f6 f7 hno
              clear h4 t hb sv hx hx2 sv2 hq2 hlt HR3  ho1 ho2))
          | ((with_reducible apply Kad); exact HS3.out; exact rfl; exact rfl; clear HS3)
          | ((with_reducible apply Kby); exact HCV3.out _; exact rfl)
          | ((with_reducible apply Kal); exact HL5.out; exact rfl)
          | ((with_reducible apply Kad); exact HS5.out; exact rfl; exact rfl))
         refine bodyPost_ret (Kaj rfl _ _ ⟨W.heap.size, 0, none⟩ _ rfl HLD.out) rfl ?_
         exact Reads.of HE.out ⟨HF.out.2.1, HF.out.2.2.1, _, rfl, ⟨_, rfl, HF.out.2.2.2⟩, HF.out.1⟩
theorem rvalue1_any {w W : World} {q : Nat} {l : List UInt8} (h : RSt 141 w W q l) (hl : l.length ≤ 1000000) :
 Calls Tryz.prog 70 #[.pointer (some ⟨q, 0, none⟩)] W (Reads w W q (rdVal 64 l) (okVal W)) := by
 have hq := h.lt
 have hb := Kac (w := W) (.cells #[.int .i64 0, .bool false, .int .i64 0, .string ⟨#[]⟩, .slice none 0 0, .slice none 0 0] 48)
 have hbx := heap_alloc_new W (.cells #[.int .i64 0, .bool false, .int .i64 0, .string ⟨#[]⟩, .slice none 0 0, .slice none 0 0] 48)
 have hlt := Array.getElem?_eq_some_iff.1 hbx |>.1
 have HV := yh (rvalue_any w 64 (Nat.le_refl _) _ q l (h.below hb) hl)
 have HB := yh (And.intro hb (And.intro hbx hlt))
 clear hb hbx hlt h
 cases hr : rdVal 64 l with
 | none =>
   rw [hr] at HV
   go_enter Tryz.func70, Tryz.ntmps70
   go_wp2_with (go_at_call 71; refine HV.out.mono ?_; rintro e W6 h6; obtain ⟨t6, hb6, rfl⟩ := h6.none; have H6 := yh (And.intro t6 hb6); clear h6 t6 hb6)
   exact ⟨rfl, Reads.of rfl ⟨(RTo.of_below HB.out.1).trans H6.out.1, H6.out.2, rfl⟩⟩
 | some p =>
   obtain ⟨v, s⟩ := p
   rw [hr] at HV
   go_enter Tryz.func70, Tryz.ntmps70
   go_wp2_with (first
    | (go_at_call 71; refine HV.out.mono ?_; rintro e W6 h6
       (
        obtain ⟨t6, hb6, x6, rfl, ⟨cs, rfl, hown⟩, s6⟩ := h6.some
        have hbx6 := (t6.keep _ HB.out.2.2 (by omega)).trans HB.out.2.1
        have hcs := hown.size6
        have hsz := t6.size
        have hlt := HB.out.2.2
        have ho : ∀ b, b ≠ W.heap.size → (W6.setRow W.heap.size cs).heap[b]? = W6.heap[b]? := fun b hb => setRow_other W6 _ b _ hb
        have hs6 : (W6.setRow W.heap.size cs).heap.size = W6.heap.size := by simp
        have hB6 := Kch (B := W.heap.size) hb6 (by have := s6.base; omega) cs
        have hto : RTo q W (W6.setRow W.heap.size cs) := ⟨by rw [hs6]; omega, fun b hb1 hq1 => (ho b (by omega)).trans ((t6.keep b (by omega) hq1).trans (HB.out.1.block b hb1))⟩
        have hvo : VOwn (W6.setRow W.heap.size cs) (fun b => W.heap.size ≤ b) v cs := (hown.keep (w' := W6.setRow W.heap.size cs) fun b hb1 _ => ho b (by omega)).imp fun b _ hb1 => by omega
        have HST := yh (StT.put Kbo hcs hown.ones hbx6 rfl)
        have HLD := yh (StT.get Kbo hcs (setRow_heap W6 W.heap.size _ cs _ _ hbx6))
        have HF := yh (And.intro hto (And.intro hB6 (And.intro hvo (s6.other hB6 (ho q (by omega))))))
        clear h6 t6 hb6 hown s6 hbx6 ho hs6 hB6 hto hvo HV hcs hsz hlt))
    | ((with_reducible apply Kad); exact HST.out; exact rfl; exact rfl))
   refine bodyPost_ret (Kaj rfl _ _ ⟨W.heap.size, 0, none⟩ _ rfl HLD.out) rfl ?_
   exact Reads.of rfl ⟨HF.out.1, HF.out.2.1, _, rfl, ⟨_, rfl, HF.out.2.2.1⟩, HF.out.2.2.2⟩
theorem rchanges_any {w W : World} {q : Nat} {l : List UInt8} (h : RSt 141 w W q l) (hl : l.length ≤ 1000000) :
 Calls Tryz.prog 80 #[.pointer (some ⟨q, 0, none⟩)] W (Reads w W q (Kas Ka5 l) fun xs v W' => GOwn COwn 74 11 W' (fun b => W.heap.size ≤ b) v xs) := by
 have HR := yh (rrowsC_reads el_change Ka5 hl h (fun W1 l' h1 h2 => rchange_any h1 h2) (fun l' x s hd => rt_change.le hd))
 clear h
 cases hr : Kas Ka5 l with
 | none =>
   rw [hr] at HR
   go_enter Tryz.func80, Tryz.ntmps80
   go_wp2_with (go_at_call 81; refine HR.out.mono ?_; rintro e W6 h6; obtain ⟨t6, hb6, rfl⟩ := h6.none; have H6 := yh (And.intro t6 hb6); clear h6 t6 hb6)
   exact ⟨rfl, Reads.of rfl ⟨H6.out.1, H6.out.2, rfl⟩⟩
 | some p =>
   obtain ⟨v, s⟩ := p
   rw [hr] at HR
   go_enter Tryz.func80, Tryz.ntmps80
   go_wp2_with (go_at_call 81; refine HR.out.mono ?_; rintro e W6 h6; obtain ⟨t6, hb6, x6, rfl, how, s6⟩ := h6.some; have H6 := yh (And.intro t6 (And.intro hb6 (And.intro how s6))); clear h6 t6 hb6 how s6)
   go_ret
   exact Reads.of rfl ⟨H6.out.1, H6.out.2.1, _, rfl, H6.out.2.2.1, H6.out.2.2.2⟩
theorem exec_lenb {a : Act} {w : World} {o : Oper} {x : Operand} {p : Option Addr} {n c : Nat} (ho : o.op = .call { callee := .builtin .len, args := #[x], argTypes := #[26] }) (hx : a.eval x = .slice p n c) : (execOp a.eval o).run Tryz.prog w = .ok (.value (.int .i64 (n : Int))) w := by
 unfold execOp
 simp only [ho, resolve, invoke, builtin, Sem.run_bind, Sem.run_pure, Result.andThen_ok, List.map_toArray, List.map_cons, List.map_nil, hx]
 simp [go_sem]
def dNum (b : List UInt8) : Option (Nat × List UInt8) := (rdN 0 0 b).map fun p => (p.1, [])
def kNum (b : List UInt8) : Nat := match rdN 0 0 b with
 | some p => b.length - p.2.length
 | none => 0
theorem rnumber1_any {w W : World} {q bb nb : Nat} {l : List UInt8} {p : Option Addr} {c : Nat} (h : RSt 141 w W q l) (hl : l.length ≤ 1000000) (hbb : W.heap[bb]? = some (.cells #[.slice p l.length c] 26 (0, 0))) (hnb : W.heap[nb]? = some (.cells #[.int .i64 0] 3 (0, 0)))
 (hne1 : bb ≠ q) (hne2 : nb ≠ q) (hwn : w.heap.size ≤ nb) :
 Calls Tryz.prog 93 #[.pointer (some ⟨q, 0, none⟩), .pointer (some ⟨bb, 0, none⟩), .pointer (some ⟨nb, 0, none⟩)] W fun e W2 => W.heap.size ≤ W2.heap.size ∧ Below w.heap.size w W2 ∧ (∀ b, b < W.heap.size → b ≠ q → b ≠ nb → W2.heap[b]? = W.heap[b]?) ∧
  ((rdN 0 0 l = none ∧ e = given ∧ W2.heap[nb]? = W.heap[nb]?) ∨ ∃ n r, rdN 0 0 l = some (n, r) ∧ e = .returned (.int .u64 (n : Int)) ∧ RSt 141 w W2 q [] ∧ W2.heap[nb]? = some (.cells #[.int .i64 ((l.length - r.length : Nat) : Int)] 3 (0, 0))) := by
 have hn := Kat h
 have hlb := (Array.getElem?_eq_some_iff.1 hbb).1
 have hln := (Array.getElem?_eq_some_iff.1 hnb).1
 have hbase := h.base
 have HN := yh hn
 have HB := yh (And.intro hbb (And.intro hnb (And.intro hlb (And.intro hln hbase))))
 clear h hn hbb hnb hlb hln
 cases hr : rdN 0 0 l with
 | none =>
   rw [hr] at HN
   go_enter Tryz.func93, Tryz.ntmps93
   go_wp2_with (go_at_call 55; refine HN.out.mono ?_; rintro e W6 h6; obtain ⟨t6, hb6, rfl⟩ := h6.none; have H6 := yh (And.intro t6 hb6); clear h6 t6 hb6)
   refine ⟨rfl, H6.out.1.size, H6.out.2, fun b hb hq _ => H6.out.1.keep b hb hq, .inl ⟨?_, rfl, H6.out.1.keep nb HB.out.2.2.2.1 hne2⟩⟩
   first | rfl | trivial
 | some pp =>
   obtain ⟨n, r⟩ := pp
   have hle := rdN_le hr
   rw [hr] at HN
   go_enter Tryz.func93, Tryz.ntmps93
   go_wp2_with (go_at_call 55; refine HN.out.mono ?_; rintro e W6 h6; obtain ⟨t6, hb6, x6, rfl, rfl, s6⟩ := h6.some; have H6 := yh (And.intro t6 (And.intro hb6 s6)); clear h6 t6 hb6 s6)
   obtain ⟨t6, hb6, s6⟩ := H6.out
   obtain ⟨hbb, hnb, hlb, hln, hbase⟩ := HB.out
   obtain ⟨p6, c6, hq6, _⟩ := s6.box
   have hs6 := t6.size
   have hbb6 := (t6.keep bb hlb hne1).trans hbb
   have hnb6 := (t6.keep nb hln hne2).trans hnb
   have hsb : ∀ W' : World, (binOp .sub 3 (.int .i64 (l.length : Int)) (.int .i64 (r.length : Int))).run Tryz.prog W' = .ok (.int .i64 ((l.length - r.length : Nat) : Int)) W' := by
    intro W'
    have e : IntKind.i64.wrap ((l.length : Int) - (r.length : Int)) = ((l.length - r.length : Nat) : Int) := by rw [IntKind.wrap_i64]; omega
    simp [go_sem, e]
   have hf1 : ∀ W' : World, (Instr.fieldAt 141 (.pointer (some ⟨q, 0, none⟩)) 0).run Tryz.prog W' = .ok (.pointer (some ⟨q, 0, none⟩)) W' := by intro W'; simp [go_sem]
   have hf2 : ∀ W' : World, (Instr.fieldAt 139 (.pointer (some ⟨q, 0, none⟩)) 0).run Tryz.prog W' = .ok (.pointer (some ⟨q, 0, none⟩)) W' := by intro W'; simp [go_sem]
   have hbbd : W6.drew.heap[bb]? = some (.cells #[.slice p l.length c] 26 (0, 0)) := hbb6
   have hqd : W6.drew.heap[q]? = some (.cells #[.slice p6 r.length c6] 141 (0, 0)) := hq6
   have hnd : W6.drew.heap[nb]? = some (.cells #[.int .i64 0] 3 (0, 0)) := hnb6
   have hst := put_int (n := ((l.length - r.length : Nat) : Int)) (Kab (o := 0) hnd rfl) (Kav (o := 0) hnd)
   refine Kan (fun W => W.cell? ⟨bb, 0, none⟩ = some (.slice p l.length c) ∧ W.cell? ⟨q, 0, none⟩ = some (.slice p6 r.length c6)) (by kernel_rfl) ⟨Kab (o := 0) hbbd rfl, Kab (o := 0) hqd rfl⟩ (fun hS => ?_)
   refine tk 0 8 (v := .slice p l.length c) rfl rfl (fun W hW => Kag rfl rfl (Kah (w := W) Tryz.underlying26 rfl hW.1)) ?_
   simp only [Act.put, sA, sZ, sS]
   refine tk 1 9 (v := .int .i64 (l.length : Int)) rfl rfl (fun W hW => exec_lenb rfl rfl) ?_
   simp only [Act.put, sA, sZ, sS]
   refine tk 2 10 (v := .pointer (some ⟨q, 0, none⟩)) rfl rfl (fun W hW => Kai rfl rfl) ?_
   simp only [Act.put, sA, sZ, sS]
   refine tk 3 11 (v := .pointer (some ⟨q, 0, none⟩)) rfl rfl (fun W hW => rfl) ?_
   simp only [Act.put, sA, sZ, sS]
   refine tk 4 12 (v := .pointer (some ⟨q, 0, none⟩)) rfl rfl (fun W hW => Kae rfl rfl (hf1 W)) ?_
   simp only [Act.put, sA, sZ, sS]
   refine tk 5 13 (v := .pointer (some ⟨q, 0, none⟩)) rfl rfl (fun W hW => Kae rfl rfl (hf2 W)) ?_
   simp only [Act.put, sA, sZ, sS]
   refine tk 6 14 (v := .slice p6 r.length c6) rfl rfl (fun W hW => Kag rfl rfl (Kah (w := W) Tryz.underlying26 rfl hW.2)) ?_
   simp only [Act.put, sA, sZ, sS]
   refine tk 7 15 (v := .int .i64 (r.length : Int)) rfl rfl (fun W hW => exec_lenb rfl rfl) ?_
   simp only [Act.put, sA, sZ, sS]
   refine tk 8 16 (v := .int .i64 ((l.length - r.length : Nat) : Int)) rfl rfl (fun W hW => Kaw rfl rfl rfl (hsb W)) ?_
   simp only [Act.put, sA, sZ, sS]
   refine onlySkip 9 rfl rfl (by kernel_rfl) rfl (Kdd rfl rfl rfl hst) (.inl (by kernel_rfl)) ?_
   refine done (by kernel_rfl) ?_ _
   have ho1 : ∀ b, b ≠ nb → (W6.drew.setCell ⟨nb, 0, none⟩ (.int .i64 ((l.length - r.length : Nat) : Int))).heap[b]? = W6.heap[b]? := fun b hb => Below.heap_setCell W6.drew ⟨nb, 0, none⟩ _ b hb
   have hn7 : (W6.drew.setCell ⟨nb, 0, none⟩ (.int .i64 ((l.length - r.length : Nat) : Int))).heap[nb]? = some (.cells #[.int .i64 ((l.length - r.length : Nat) : Int)] 3 (0, 0)) := heap_setCell_same W6.drew nb 0 _ _ _ hnd
   have hs7 : (W6.drew.setCell ⟨nb, 0, none⟩ (.int .i64 ((l.length - r.length : Nat) : Int))).heap.size = W6.heap.size := by
    have : W6.drew.heap.size = W6.heap.size := rfl
    rw [← this]; simp [World.setCell]
   have hb7 : Below w.heap.size w (W6.drew.setCell ⟨nb, 0, none⟩ (.int .i64 ((l.length - r.length : Nat) : Int))) := Kbf hb6.drew hwn _
   have hq7 := (ho1 q (fun e => hne2 e.symm)).trans hq6
   generalize W6.drew.setCell ⟨nb, 0, none⟩ (.int .i64 ((l.length - r.length : Nat) : Int)) = W7 at *
   have hst2 := put_bytesR (p := none) (n := 0) (c := 0) (Kab (o := 0) hq7 rfl) (Kav (o := 0) hq7)
   have ho2 : ∀ b, b ≠ q → (W7.setCell ⟨q, 0, none⟩ (.slice none 0 0)).heap[b]? = W7.heap[b]? := fun b hb => Below.heap_setCell W7 ⟨q, 0, none⟩ _ b hb
   have hs8 : (W7.setCell ⟨q, 0, none⟩ (.slice none 0 0)).heap.size = W7.heap.size := by simp [World.setCell]
   have hb8 : Below w.heap.size w (W7.setCell ⟨q, 0, none⟩ (.slice none 0 0)) := Kbf hb7 hbase _
   have hq8 : (W7.setCell ⟨q, 0, none⟩ (.slice none 0 0)).heap[q]? = some (.cells #[.slice none ([] : List UInt8).length 0] 141 (0, 0)) := heap_setCell_same W7 q 0 _ _ _ hq7
   have hrs : RSt 141 w (W7.setCell ⟨q, 0, none⟩ (.slice none 0 0)) q [] := ⟨hb8, hbase, none, 0, hq8, none, 0, rfl, ⟨Nat.le_refl _, by simp [maxLen], fun _ => rfl⟩, fun ad had => by cases had⟩
   have HST := yh hst2
   have HF := yh (show W.heap.size ≤ (W7.setCell ⟨q, 0, none⟩ (.slice none 0 0)).heap.size ∧ Below w.heap.size w (W7.setCell ⟨q, 0, none⟩ (.slice none 0 0)) ∧ (∀ b, b < W.heap.size → b ≠ q → b ≠ nb → (W7.setCell ⟨q, 0, none⟩ (.slice none 0 0)).heap[b]? = W.heap[b]?) ∧ RSt 141 w (W7.setCell ⟨q, 0, none⟩ (.slice none 0 0)) q [] ∧ (W7.setCell ⟨q, 0, none⟩ (.slice none 0 0)).heap[nb]? = some (.cells #[.int .i64 ((l.length - r.length : Nat) : Int)] 3 (0, 0)) from
    ⟨by omega, hb8, fun b hb h1 h2 => (ho2 b h1).trans ((ho1 b h2).trans (t6.keep b hb h1)), hrs, (ho2 nb hne2).trans hn7⟩)
   clear hS t6 hb6 s6 hbb hnb hlb hln hq6 hs6 hbb6 hnb6 hsb hf1 hf2 hbbd hqd hnd hst ho1 hn7 hs7 hb7 hq7 hst2 ho2 hs8 hb8 hq8 hrs HB H6 HN
   go_wp2_with ((with_reducible apply Kad); exact HST.out; exact rfl; exact rfl)
   go_ret
   obtain ⟨g1, g2, g3, g4, g5⟩ := HF.out
   exact ⟨g1, g2, g3, .inr ⟨n, r, rfl, rfl, g4, g5⟩⟩
theorem anyNumber (n : Int) (w : World) : Calls Tryz.prog 94 #[.int .u64 n] w fun e w' => e = .returned (.bool true) ∧ Below w.heap.size w w' := by
 go_enter Tryz.func94, Tryz.ntmps94
 go_wp2
 go_ret
 exact ⟨rfl, Below.refl _ _⟩
section
variable {P : Program} {ops : Array Oper} {rest : List Oper} {Q : Exit → Act → World → Prop} {a : Act} {w w' : World} {dst : Option Tmp} {ty : TypeId} {pos : String} {af : Array Edge} {t : TypeId} {x y : Operand} {v : Value}
theorem Kdr {b : Addr} {g : Nat × Bool} (hr : (loadVar t b).run P w = .ok v w) (hx : a.eval x = .pointer (some b)) (hw : Region.wanted (⟨dst, .load t x, ty, pos, af, some g⟩ : Oper) (yielded ops a.tmps) = true) (h : wpList P ops Q rest (a.put dst v) w) : wpList P ops Q (⟨dst, .load t x, ty, pos, af, some g⟩ :: rest) a w := wpList_runG hw (Kag rfl hx hr) h
theorem Kbk {fn : Func} {p q : Tmp} {tz : TypeId} (h : fn.results = #[.cell p t, .cell q tz]) (tmps : Array Value) (w : World) (ad ad2 : Addr) (v v2 : Value)
 (hp : tmps.getD p undef = .pointer (some ad)) (hq : tmps.getD q undef = .pointer (some ad2)) (hl : (loadVar t ad).run P w = .ok v w) (hl2 : (loadVar tz ad2).run P w = .ok v2 w) : (results fn tmps).run P w = .ok (.tuple #[v, v2]) w := by
 have hp' : tmps[p]?.getD undef = .pointer (some ad) := by simpa using hp
 have hq' : tmps[q]?.getD undef = .pointer (some ad2) := by simpa using hq
 simp [results, h, hp', hq', asAddr, hl, hl2]
end
def mk1 (c : Array Value) : Value := c.getD 0 undef
structure VT (T : TypeId) (K : Nat) (mk : Array Value → Value) : Prop where
 put : ∀ {W : World} {g : Nat} {z c : Array Value}, c.size = K → (∀ u ∈ c.toList, u.oneCell' = true) → W.heap[g]? = some (.cells z T (0, 0)) → z.size = K → (storeVar T ⟨g, 0, none⟩ (mk c)).run Tryz.prog W = .ok () (W.setRow g c)
 get : ∀ {W : World} {g : Nat} {c : Array Value}, c.size = K → W.heap[g]? = some (.cells c T (0, 0)) → (loadVar T ⟨g, 0, none⟩).run Tryz.prog W = .ok (mk c) W
theorem VT.of {T : TypeId} {K : Nat} (h : StT Tryz.prog T K) : VT T K .agg := ⟨fun h1 h2 h3 h4 => h.put h1 h2 h3 h4, fun h1 h2 => h.get h1 h2⟩
theorem VT.one {T : TypeId} {d : TypeDesc} (hu : Tryz.prog.underlying T = some d) (hd : isAggD d = false) (hi : (Tryz.prog.info? T).map (·.size) = some 1) : VT T 1 mk1 := by
 refine ⟨fun {W g z c} h1 h2 h3 h4 => ?_, fun {W g c} h1 h2 => ?_⟩
 ·obtain ⟨u, rfl⟩ : ∃ u, c = #[u] := by
   rcases c with ⟨l⟩
   match l, h1 with
   | [u], _ => exact ⟨u, rfl⟩
  have h1u : u.oneCell' = true := h2 u (by simp)
  have hc : u.cells = #[u] := by cases u <;> first | rfl | (simp [Value.oneCell'] at h1u)
  have hr := run_storeVar_row (P := Tryz.prog) W g T T z #[u] h3 hi (by simpa using h4) (by simp [h1u])
  have e : storeVar T ⟨g, 0, none⟩ (.agg #[u]) = storeVar T ⟨g, 0, none⟩ u := by unfold storeVar; rw [hc]; rfl
  rw [e] at hr
  exact hr
 ·obtain ⟨u, rfl⟩ : ∃ u, c = #[u] := by
   rcases c with ⟨l⟩
   match l, h1 with
   | [u], _ => exact ⟨u, rfl⟩
  exact Kah hu (by revert hd; cases d <;> simp [isAggD]) (Kab (o := 0) h2 rfl)
theorem Kcp : VT 25 4 .agg := .of Kbt
theorem vt_val : VT 48 6 .agg := .of Kbo
theorem vt_u64 : VT 79 1 mk1 := .one Tryz.underlying79 rfl (by kernel_rfl)
theorem Kb5 : VT 58 1 mk1 := .one Tryz.underlying58 rfl (by kernel_rfl)
theorem Kbw : VT 29 1 mk1 := .one Tryz.underlying29 rfl (by kernel_rfl)
section
variable {α : Type} {d : Dec α} {ok : α → Bool} {b s : List UInt8} {x : α}
theorem readW_none (h : d b = none) : readW d ok b = none := by unfold readW; rw [h]
theorem readW_left (h : d b = some (x, s)) (hs : s ≠ []) : readW d ok b = none := by
 unfold readW; rw [h]
 cases s with
 | nil => exact absurd rfl hs
 | cons => rfl
theorem readW_no (h : d b = some (x, [])) (hx : ok x = false) : readW d ok b = none := by unfold readW; rw [h]; simp [hx]
theorem readW_yes (h : d b = some (x, [])) (hx : ok x = true) : readW d ok b = some x := by unfold readW; rw [h]; simp [hx]
end
def ReadPost {α : Type} (w W : World) (X : Nat → Prop) (mk : Array Value → Value) (z : Array Value) (OK : World → α → Array Value → Prop) (Jn : World → Prop) (fails : Prop) (r : Option α) (e : Ending) (W' : World) : Prop :=
 Below w.heap.size w W' ∧ W.heap.size ≤ W'.heap.size ∧ (∀ b, b < W.heap.size → ¬ X b → W'.heap[b]? = W.heap[b]?) ∧ match r with
  | some x => ∃ cs, e = .returned (.tuple #[mk cs, .int .i64 0]) ∧ OK W' x cs ∧ Jn W'
  | none => e = .returned (.tuple #[mk z, .int .i64 290]) ∧ (fails → ∀ b, X b → W'.heap[b]? = W.heap[b]?)
theorem idleG (p q : Addr) (w : World) :
 CallsD Tryz.prog 104 #[.pointer (some p), .pointer (some q)] .returning w fun e u' w' => e = .returned (.tuple #[]) ∧ u' = .returning ∧ w' = w := by
 have hnil : ∀ w : World, (binOp BinOp.eql 20 .nilIface .nilIface).run Tryz.prog w = .ok (.bool true) w := fun _ => by kernel_rfl
 refine callsD_of_wpS Tryz.func104 rfl fun c₀ cs hu => ?_
 apply wpS_seq
 apply wpS_region
 simp [wpOpsS, go_sem, recoverD, hu, Tryz.ntmps104, Exit.thenS]
 have e : (#[.pointer (some p), .pointer (some q)] ++ (Array.replicate 11 undef).setIfInBounds 4 Value.nilIface : Array Value) = #[.pointer (some p), .pointer (some q), undef, undef, undef, undef, .nilIface, undef, undef, undef, undef, undef, undef] := rfl
 rw [e]
 clear e
 refine wpS_of_wp ?_
 have HU := yh hu
 clear hu
 go_wp2
 refine ⟨rfl, .returning, ?_, _, results_none rfl _ _ _, rfl, rfl, rfl⟩
 have hu := HU.out
 cases c₀
 simp_all
theorem caughtG {w : World} {P Q : Nat} {z : Array Value} {n : Int} (hp : w.heap[P]? = some (.cells z 25 (0, 0))) (hz : z.size = 4) (hq : w.heap[Q]? = some (.cells #[.int .i64 n] 29 (0, 0))) (hne : P ≠ Q) :
 CallsD Tryz.prog 104 #[.pointer (some ⟨P, 0, none⟩), .pointer (some ⟨Q, 0, none⟩)] (.panicking [{ v := badV, recovered := false }]) w fun e u' w' =>
  e = .returned (.tuple #[]) ∧ u' = .panicking [{ v := badV, recovered := true }] ∧ w'.heap[P]? = some (.cells #[.slice none 0 0, .slice none 0 0, .int .i64 0, .int .i64 0] 25 (0, 0)) ∧ w'.heap[Q]? = some (.cells #[.int .i64 290] 29 (0, 0)) ∧ Touch (fun x => x = P ∨ x = Q) w w' := by
 have hnil : ∀ w : World, (binOp BinOp.eql 20 badV .nilIface).run Tryz.prog w = .ok (.bool false) w := fun _ => by rfl
 have hta : ∀ w : World, (Instr.typeAssert badV 20 154 true).run Tryz.prog w = .ok (.tuple #[.agg #[], .bool true]) w := fun _ => by rfl
 have hB : Below w.heap.size w ((w.alloc (.cells #[] 154)).alloc (.cells #[.slice none 0 0, .slice none 0 0, .int .i64 0, .int .i64 0] 25)) := (Kac _).alloc (by simp) _
 have hlp := (Array.getElem?_eq_some_iff.1 hp).1
 have hlq := (Array.getElem?_eq_some_iff.1 hq).1
 have hp1 := Kak hB hlp hp
 have hq1 := Kak hB hlq hq
 have h4 : ((w.alloc (.cells #[] 154)).alloc (.cells #[.slice none 0 0, .slice none 0 0, .int .i64 0, .int .i64 0] 25)).heap[w.heap.size + 1]? = some (.cells #[.slice none 0 0, .slice none 0 0, .int .i64 0, .int .i64 0] 25 (0, 0)) := by
  simp only [Kaf, World.size_alloc]; rw [if_pos trivial]
 have hT1 : Touch (fun x => x = P ∨ x = Q) w ((w.alloc (.cells #[] 154)).alloc (.cells #[.slice none 0 0, .slice none 0 0, .int .i64 0, .int .i64 0] 25)) := ((Touch.refl _ _).alloc _).alloc _
 have HL := yh (Kcp.get (c := #[.slice none 0 0, .slice none 0 0, .int .i64 0, .int .i64 0]) rfl h4)
 have HS := yh (Kcp.put (c := #[.slice none 0 0, .slice none 0 0, .int .i64 0, .int .i64 0]) rfl (by simp [Value.oneCell']) hp1 hz)
 generalize hWa : (w.alloc (.cells #[] 154)).alloc (.cells #[.slice none 0 0, .slice none 0 0, .int .i64 0, .int .i64 0] 25) = Wa at *
 have hq2 := (setRow_other Wa P Q #[.slice none 0 0, .slice none 0 0, .int .i64 0, .int .i64 0] (fun e => hne e.symm)).trans hq1
 have hp2 := setRow_heap Wa P z #[.slice none 0 0, .slice none 0 0, .int .i64 0, .int .i64 0] _ _ hp1
 have hT2 : Touch (fun x => x = P ∨ x = Q) w (Wa.setRow P #[.slice none 0 0, .slice none 0 0, .int .i64 0, .int .i64 0]) := by
  have hs : (Wa.setRow P #[.slice none 0 0, .slice none 0 0, .int .i64 0, .int .i64 0]).heap.size = Wa.heap.size := by simp
  exact hT1.step (show Touch (fun x => x = P) Wa (Wa.setRow P #[.slice none 0 0, .slice none 0 0, .int .i64 0, .int .i64 0]) from ⟨rfl, rfl, rfl, by rw [hs]; exact Nat.le_refl _, fun b _ hb => setRow_other Wa P b #[.slice none 0 0, .slice none 0 0, .int .i64 0, .int .i64 0] hb⟩) (fun x _ h => .inl h)
 have HE := yh (Kbw.put (c := #[.int .i64 290]) rfl (by simp [Value.oneCell']) hq2 rfl)
 have hp3 := (setRow_other (Wa.setRow P #[.slice none 0 0, .slice none 0 0, .int .i64 0, .int .i64 0]) Q P #[.int .i64 290] hne).trans hp2
 have hq3 := setRow_heap (Wa.setRow P #[.slice none 0 0, .slice none 0 0, .int .i64 0, .int .i64 0]) Q _ #[.int .i64 290] _ _ hq2
 have hT3 : Touch (fun x => x = P ∨ x = Q) w ((Wa.setRow P #[.slice none 0 0, .slice none 0 0, .int .i64 0, .int .i64 0]).setRow Q #[.int .i64 290]) := by
  have hs : ((Wa.setRow P #[.slice none 0 0, .slice none 0 0, .int .i64 0, .int .i64 0]).setRow Q #[.int .i64 290]).heap.size = (Wa.setRow P #[.slice none 0 0, .slice none 0 0, .int .i64 0, .int .i64 0]).heap.size := by simp
  exact hT2.step (show Touch (fun x => x = Q) (Wa.setRow P #[.slice none 0 0, .slice none 0 0, .int .i64 0, .int .i64 0]) ((Wa.setRow P #[.slice none 0 0, .slice none 0 0, .int .i64 0, .int .i64 0]).setRow Q #[.int .i64 290]) from ⟨rfl, rfl, rfl, by rw [hs]; exact Nat.le_refl _, fun b _ hb => setRow_other _ Q b _ hb⟩) (fun x _ h => .inr h)
 have HF := yh (And.intro hp3 (And.intro hq3 hT3))
 clear hB hp1 hq1 h4 hT1 hq2 hp2 hT2 hp3 hq3 hT3
 refine callsD_of_wpS Tryz.func104 rfl fun c₀ cs hu => ?_
 apply wpS_seq
 apply wpS_region
 simp [wpOpsS, go_sem, recoverD, hu, Tryz.ntmps104, Exit.thenS]
 have e : (#[.pointer (some ⟨P, 0, none⟩), .pointer (some ⟨Q, 0, none⟩)] ++ (Array.replicate 11 undef).setIfInBounds 4 badV : Array Value) = #[.pointer (some ⟨P, 0, none⟩), .pointer (some ⟨Q, 0, none⟩), undef, undef, undef, undef, badV, undef, undef, undef, undef, undef, undef] := rfl
 rw [e]
 clear e
 refine wpS_of_wp ?_
 have HU := yh hu
 clear hu
 go_wp2_with (first
  | ((with_reducible apply Kal); exact HL.out; exact rfl)
  | ((with_reducible apply Kad); exact HS.out; exact rfl; exact rfl)
  | ((with_reducible apply Kad); exact HE.out; exact rfl; exact rfl))
 refine ⟨rfl, .panicking [{ v := badV, recovered := true }], ?_, _, results_none rfl _ _ _, rfl, rfl, HF.out⟩
 rfl
theorem idleV (p q : Addr) (w : World) :
 CallsD Tryz.prog 121 #[.pointer (some p), .pointer (some q)] .returning w fun e u' w' => e = .returned (.tuple #[]) ∧ u' = .returning ∧ w' = w := by
 have hnil : ∀ w : World, (binOp BinOp.eql 20 .nilIface .nilIface).run Tryz.prog w = .ok (.bool true) w := fun _ => by kernel_rfl
 refine callsD_of_wpS Tryz.func121 rfl fun c₀ cs hu => ?_
 apply wpS_seq
 apply wpS_region
 simp [wpOpsS, go_sem, recoverD, hu, Tryz.ntmps121, Exit.thenS]
 have e : (#[.pointer (some p), .pointer (some q)] ++ (Array.replicate 11 undef).setIfInBounds 4 Value.nilIface : Array Value) = #[.pointer (some p), .pointer (some q), undef, undef, undef, undef, .nilIface, undef, undef, undef, undef, undef, undef] := rfl
 rw [e]
 clear e
 refine wpS_of_wp ?_
 have HU := yh hu
 clear hu
 go_wp2
 refine ⟨rfl, .returning, ?_, _, results_none rfl _ _ _, rfl, rfl, rfl⟩
 have hu := HU.out
 cases c₀
 simp_all
theorem caughtV {w : World} {P Q : Nat} {z : Array Value} {n : Int} (hp : w.heap[P]? = some (.cells z 48 (0, 0))) (hz : z.size = 6) (hq : w.heap[Q]? = some (.cells #[.int .i64 n] 29 (0, 0))) (hne : P ≠ Q) :
 CallsD Tryz.prog 121 #[.pointer (some ⟨P, 0, none⟩), .pointer (some ⟨Q, 0, none⟩)] (.panicking [{ v := badV, recovered := false }]) w fun e u' w' =>
  e = .returned (.tuple #[]) ∧ u' = .panicking [{ v := badV, recovered := true }] ∧ w'.heap[P]? = some (.cells #[.int .i64 0, .bool false, .int .i64 0, .string ⟨#[]⟩, .slice none 0 0, .slice none 0 0] 48 (0, 0)) ∧ w'.heap[Q]? = some (.cells #[.int .i64 290] 29 (0, 0)) ∧ Touch (fun x => x = P ∨ x = Q) w w' := by
 have hnil : ∀ w : World, (binOp BinOp.eql 20 badV .nilIface).run Tryz.prog w = .ok (.bool false) w := fun _ => by rfl
 have hta : ∀ w : World, (Instr.typeAssert badV 20 154 true).run Tryz.prog w = .ok (.tuple #[.agg #[], .bool true]) w := fun _ => by rfl
 have hB : Below w.heap.size w ((w.alloc (.cells #[] 154)).alloc (.cells #[.int .i64 0, .bool false, .int .i64 0, .string ⟨#[]⟩, .slice none 0 0, .slice none 0 0] 48)) := (Kac _).alloc (by simp) _
 have hlp := (Array.getElem?_eq_some_iff.1 hp).1
 have hlq := (Array.getElem?_eq_some_iff.1 hq).1
 have hp1 := Kak hB hlp hp
 have hq1 := Kak hB hlq hq
 have h4 : ((w.alloc (.cells #[] 154)).alloc (.cells #[.int .i64 0, .bool false, .int .i64 0, .string ⟨#[]⟩, .slice none 0 0, .slice none 0 0] 48)).heap[w.heap.size + 1]? = some (.cells #[.int .i64 0, .bool false, .int .i64 0, .string ⟨#[]⟩, .slice none 0 0, .slice none 0 0] 48 (0, 0)) := by
  simp only [Kaf, World.size_alloc]; rw [if_pos trivial]
 have hT1 : Touch (fun x => x = P ∨ x = Q) w ((w.alloc (.cells #[] 154)).alloc (.cells #[.int .i64 0, .bool false, .int .i64 0, .string ⟨#[]⟩, .slice none 0 0, .slice none 0 0] 48)) := ((Touch.refl _ _).alloc _).alloc _
 have HL := yh (vt_val.get (c := #[.int .i64 0, .bool false, .int .i64 0, .string ⟨#[]⟩, .slice none 0 0, .slice none 0 0]) rfl h4)
 have HS := yh (vt_val.put (c := #[.int .i64 0, .bool false, .int .i64 0, .string ⟨#[]⟩, .slice none 0 0, .slice none 0 0]) rfl (by simp [Value.oneCell']) hp1 hz)
 generalize hWa : (w.alloc (.cells #[] 154)).alloc (.cells #[.int .i64 0, .bool false, .int .i64 0, .string ⟨#[]⟩, .slice none 0 0, .slice none 0 0] 48) = Wa at *
 have hq2 := (setRow_other Wa P Q #[.int .i64 0, .bool false, .int .i64 0, .string ⟨#[]⟩, .slice none 0 0, .slice none 0 0] (fun e => hne e.symm)).trans hq1
 have hp2 := setRow_heap Wa P z #[.int .i64 0, .bool false, .int .i64 0, .string ⟨#[]⟩, .slice none 0 0, .slice none 0 0] _ _ hp1
 have hT2 : Touch (fun x => x = P ∨ x = Q) w (Wa.setRow P #[.int .i64 0, .bool false, .int .i64 0, .string ⟨#[]⟩, .slice none 0 0, .slice none 0 0]) := by
  have hs : (Wa.setRow P #[.int .i64 0, .bool false, .int .i64 0, .string ⟨#[]⟩, .slice none 0 0, .slice none 0 0]).heap.size = Wa.heap.size := by simp
  exact hT1.step (show Touch (fun x => x = P) Wa (Wa.setRow P #[.int .i64 0, .bool false, .int .i64 0, .string ⟨#[]⟩, .slice none 0 0, .slice none 0 0]) from ⟨rfl, rfl, rfl, by rw [hs]; exact Nat.le_refl _, fun b _ hb => setRow_other Wa P b #[.int .i64 0, .bool false, .int .i64 0, .string ⟨#[]⟩, .slice none 0 0, .slice none 0 0] hb⟩) (fun x _ h => .inl h)
 have HE := yh (Kbw.put (c := #[.int .i64 290]) rfl (by simp [Value.oneCell']) hq2 rfl)
 have hp3 := (setRow_other (Wa.setRow P #[.int .i64 0, .bool false, .int .i64 0, .string ⟨#[]⟩, .slice none 0 0, .slice none 0 0]) Q P #[.int .i64 290] hne).trans hp2
 have hq3 := setRow_heap (Wa.setRow P #[.int .i64 0, .bool false, .int .i64 0, .string ⟨#[]⟩, .slice none 0 0, .slice none 0 0]) Q _ #[.int .i64 290] _ _ hq2
 have hT3 : Touch (fun x => x = P ∨ x = Q) w ((Wa.setRow P #[.int .i64 0, .bool false, .int .i64 0, .string ⟨#[]⟩, .slice none 0 0, .slice none 0 0]).setRow Q #[.int .i64 290]) := by
  have hs : ((Wa.setRow P #[.int .i64 0, .bool false, .int .i64 0, .string ⟨#[]⟩, .slice none 0 0, .slice none 0 0]).setRow Q #[.int .i64 290]).heap.size = (Wa.setRow P #[.int .i64 0, .bool false, .int .i64 0, .string ⟨#[]⟩, .slice none 0 0, .slice none 0 0]).heap.size := by simp
  exact hT2.step (show Touch (fun x => x = Q) (Wa.setRow P #[.int .i64 0, .bool false, .int .i64 0, .string ⟨#[]⟩, .slice none 0 0, .slice none 0 0]) ((Wa.setRow P #[.int .i64 0, .bool false, .int .i64 0, .string ⟨#[]⟩, .slice none 0 0, .slice none 0 0]).setRow Q #[.int .i64 290]) from ⟨rfl, rfl, rfl, by rw [hs]; exact Nat.le_refl _, fun b _ hb => setRow_other _ Q b _ hb⟩) (fun x _ h => .inr h)
 have HF := yh (And.intro hp3 (And.intro hq3 hT3))
 clear hB hp1 hq1 h4 hT1 hq2 hp2 hT2 hp3 hq3 hT3
 refine callsD_of_wpS Tryz.func121 rfl fun c₀ cs hu => ?_
 apply wpS_seq
 apply wpS_region
 simp [wpOpsS, go_sem, recoverD, hu, Tryz.ntmps121, Exit.thenS]
 have e : (#[.pointer (some ⟨P, 0, none⟩), .pointer (some ⟨Q, 0, none⟩)] ++ (Array.replicate 11 undef).setIfInBounds 4 badV : Array Value) = #[.pointer (some ⟨P, 0, none⟩), .pointer (some ⟨Q, 0, none⟩), undef, undef, undef, undef, badV, undef, undef, undef, undef, undef, undef] := rfl
 rw [e]
 clear e
 refine wpS_of_wp ?_
 have HU := yh hu
 clear hu
 go_wp2_with (first
  | ((with_reducible apply Kal); exact HL.out; exact rfl)
  | ((with_reducible apply Kad); exact HS.out; exact rfl; exact rfl)
  | ((with_reducible apply Kad); exact HE.out; exact rfl; exact rfl))
 refine ⟨rfl, .panicking [{ v := badV, recovered := true }], ?_, _, results_none rfl _ _ _, rfl, rfl, HF.out⟩
 rfl
theorem idleN (p q : Addr) (w : World) :
 CallsD Tryz.prog 139 #[.pointer (some p), .pointer (some q)] .returning w fun e u' w' => e = .returned (.tuple #[]) ∧ u' = .returning ∧ w' = w := by
 have hnil : ∀ w : World, (binOp BinOp.eql 20 .nilIface .nilIface).run Tryz.prog w = .ok (.bool true) w := fun _ => by kernel_rfl
 refine callsD_of_wpS Tryz.func139 rfl fun c₀ cs hu => ?_
 apply wpS_seq
 apply wpS_region
 simp [wpOpsS, go_sem, recoverD, hu, Tryz.ntmps139, Exit.thenS]
 have e : (#[.pointer (some p), .pointer (some q)] ++ (Array.replicate 11 undef).setIfInBounds 4 Value.nilIface : Array Value) = #[.pointer (some p), .pointer (some q), undef, undef, undef, undef, .nilIface, undef, undef, undef, undef, undef, undef] := rfl
 rw [e]
 clear e
 refine wpS_of_wp ?_
 have HU := yh hu
 clear hu
 go_wp2
 refine ⟨rfl, .returning, ?_, _, results_none rfl _ _ _, rfl, rfl, rfl⟩
 have hu := HU.out
 cases c₀
 simp_all
theorem caughtN {w : World} {P Q : Nat} {z : Array Value} {n : Int} (hp : w.heap[P]? = some (.cells z 79 (0, 0))) (hz : z.size = 1) (hq : w.heap[Q]? = some (.cells #[.int .i64 n] 29 (0, 0))) (hne : P ≠ Q) :
 CallsD Tryz.prog 139 #[.pointer (some ⟨P, 0, none⟩), .pointer (some ⟨Q, 0, none⟩)] (.panicking [{ v := badV, recovered := false }]) w fun e u' w' =>
  e = .returned (.tuple #[]) ∧ u' = .panicking [{ v := badV, recovered := true }] ∧ w'.heap[P]? = some (.cells #[.int .u64 0] 79 (0, 0)) ∧ w'.heap[Q]? = some (.cells #[.int .i64 290] 29 (0, 0)) ∧ Touch (fun x => x = P ∨ x = Q) w w' := by
 have hnil : ∀ w : World, (binOp BinOp.eql 20 badV .nilIface).run Tryz.prog w = .ok (.bool false) w := fun _ => by rfl
 have hta : ∀ w : World, (Instr.typeAssert badV 20 154 true).run Tryz.prog w = .ok (.tuple #[.agg #[], .bool true]) w := fun _ => by rfl
 have hB : Below w.heap.size w (w.alloc (.cells #[] 154)) := Kac _
 have hlp := (Array.getElem?_eq_some_iff.1 hp).1
 have hlq := (Array.getElem?_eq_some_iff.1 hq).1
 have hp1 := Kak hB hlp hp
 have hq1 := Kak hB hlq hq
 have hT1 : Touch (fun x => x = P ∨ x = Q) w (w.alloc (.cells #[] 154)) := (Touch.refl _ _).alloc _
 have HS := yh (vt_u64.put (c := #[.int .u64 0]) rfl (by simp [Value.oneCell']) hp1 hz)
 generalize hWa : w.alloc (.cells #[] 154) = Wa at *
 have hq2 := (setRow_other Wa P Q #[.int .u64 0] (fun e => hne e.symm)).trans hq1
 have hp2 := setRow_heap Wa P z #[.int .u64 0] _ _ hp1
 have hT2 : Touch (fun x => x = P ∨ x = Q) w (Wa.setRow P #[.int .u64 0]) := by
  have hs : (Wa.setRow P #[.int .u64 0]).heap.size = Wa.heap.size := by simp
  exact hT1.step (show Touch (fun x => x = P) Wa (Wa.setRow P #[.int .u64 0]) from ⟨rfl, rfl, rfl, by rw [hs]; exact Nat.le_refl _, fun b _ hb => setRow_other Wa P b #[.int .u64 0] hb⟩) (fun x _ h => .inl h)
 have HE := yh (Kbw.put (c := #[.int .i64 290]) rfl (by simp [Value.oneCell']) hq2 rfl)
 have hp3 := (setRow_other (Wa.setRow P #[.int .u64 0]) Q P #[.int .i64 290] hne).trans hp2
 have hq3 := setRow_heap (Wa.setRow P #[.int .u64 0]) Q _ #[.int .i64 290] _ _ hq2
 have hT3 : Touch (fun x => x = P ∨ x = Q) w ((Wa.setRow P #[.int .u64 0]).setRow Q #[.int .i64 290]) := by
  have hs : ((Wa.setRow P #[.int .u64 0]).setRow Q #[.int .i64 290]).heap.size = (Wa.setRow P #[.int .u64 0]).heap.size := by simp
  exact hT2.step (show Touch (fun x => x = Q) (Wa.setRow P #[.int .u64 0]) ((Wa.setRow P #[.int .u64 0]).setRow Q #[.int .i64 290]) from ⟨rfl, rfl, rfl, by rw [hs]; exact Nat.le_refl _, fun b _ hb => setRow_other _ Q b _ hb⟩) (fun x _ h => .inr h)
 have HF := yh (And.intro hp3 (And.intro hq3 hT3))
 clear hB hp1 hq1 hT1 hq2 hp2 hT2 hp3 hq3 hT3
 refine callsD_of_wpS Tryz.func139 rfl fun c₀ cs hu => ?_
 apply wpS_seq
 apply wpS_region
 simp [wpOpsS, go_sem, recoverD, hu, Tryz.ntmps139, Exit.thenS]
 have e : (#[.pointer (some ⟨P, 0, none⟩), .pointer (some ⟨Q, 0, none⟩)] ++ (Array.replicate 11 undef).setIfInBounds 4 badV : Array Value) = #[.pointer (some ⟨P, 0, none⟩), .pointer (some ⟨Q, 0, none⟩), undef, undef, undef, undef, badV, undef, undef, undef, undef, undef, undef] := rfl
 rw [e]
 clear e
 refine wpS_of_wp ?_
 have HU := yh hu
 clear hu
 go_wp2_with (first
  | ((with_reducible apply Kad); exact HS.out; exact rfl; exact rfl)
  | ((with_reducible apply Kad); exact HE.out; exact rfl; exact rfl))
 refine ⟨rfl, .panicking [{ v := badV, recovered := true }], ?_, _, results_none rfl _ _ _, rfl, rfl, HF.out⟩
 rfl
theorem idleC (p q : Addr) (w : World) :
 CallsD Tryz.prog 129 #[.pointer (some p), .pointer (some q)] .returning w fun e u' w' => e = .returned (.tuple #[]) ∧ u' = .returning ∧ w' = w := by
 have hnil : ∀ w : World, (binOp BinOp.eql 20 .nilIface .nilIface).run Tryz.prog w = .ok (.bool true) w := fun _ => by kernel_rfl
 refine callsD_of_wpS Tryz.func129 rfl fun c₀ cs hu => ?_
 apply wpS_seq
 apply wpS_region
 simp [wpOpsS, go_sem, recoverD, hu, Tryz.ntmps129, Exit.thenS]
 have e : (#[.pointer (some p), .pointer (some q)] ++ (Array.replicate 11 undef).setIfInBounds 4 Value.nilIface : Array Value) = #[.pointer (some p), .pointer (some q), undef, undef, undef, undef, .nilIface, undef, undef, undef, undef, undef, undef] := rfl
 rw [e]
 clear e
 refine wpS_of_wp ?_
 have HU := yh hu
 clear hu
 go_wp2
 refine ⟨rfl, .returning, ?_, _, results_none rfl _ _ _, rfl, rfl, rfl⟩
 have hu := HU.out
 cases c₀
 simp_all
theorem caughtC {w : World} {P Q : Nat} {z : Array Value} {n : Int} (hp : w.heap[P]? = some (.cells z 58 (0, 0))) (hz : z.size = 1) (hq : w.heap[Q]? = some (.cells #[.int .i64 n] 29 (0, 0))) (hne : P ≠ Q) :
 CallsD Tryz.prog 129 #[.pointer (some ⟨P, 0, none⟩), .pointer (some ⟨Q, 0, none⟩)] (.panicking [{ v := badV, recovered := false }]) w fun e u' w' =>
  e = .returned (.tuple #[]) ∧ u' = .panicking [{ v := badV, recovered := true }] ∧ w'.heap[P]? = some (.cells #[.slice none 0 0] 58 (0, 0)) ∧ w'.heap[Q]? = some (.cells #[.int .i64 290] 29 (0, 0)) ∧ Touch (fun x => x = P ∨ x = Q) w w' := by
 have hnil : ∀ w : World, (binOp BinOp.eql 20 badV .nilIface).run Tryz.prog w = .ok (.bool false) w := fun _ => by rfl
 have hta : ∀ w : World, (Instr.typeAssert badV 20 154 true).run Tryz.prog w = .ok (.tuple #[.agg #[], .bool true]) w := fun _ => by rfl
 have hB : Below w.heap.size w (w.alloc (.cells #[] 154)) := Kac _
 have hlp := (Array.getElem?_eq_some_iff.1 hp).1
 have hlq := (Array.getElem?_eq_some_iff.1 hq).1
 have hp1 := Kak hB hlp hp
 have hq1 := Kak hB hlq hq
 have hT1 : Touch (fun x => x = P ∨ x = Q) w (w.alloc (.cells #[] 154)) := (Touch.refl _ _).alloc _
 have HS := yh (Kb5.put (c := #[.slice none 0 0]) rfl (by simp [Value.oneCell']) hp1 hz)
 generalize hWa : w.alloc (.cells #[] 154) = Wa at *
 have hq2 := (setRow_other Wa P Q #[.slice none 0 0] (fun e => hne e.symm)).trans hq1
 have hp2 := setRow_heap Wa P z #[.slice none 0 0] _ _ hp1
 have hT2 : Touch (fun x => x = P ∨ x = Q) w (Wa.setRow P #[.slice none 0 0]) := by
  have hs : (Wa.setRow P #[.slice none 0 0]).heap.size = Wa.heap.size := by simp
  exact hT1.step (show Touch (fun x => x = P) Wa (Wa.setRow P #[.slice none 0 0]) from ⟨rfl, rfl, rfl, by rw [hs]; exact Nat.le_refl _, fun b _ hb => setRow_other Wa P b #[.slice none 0 0] hb⟩) (fun x _ h => .inl h)
 have HE := yh (Kbw.put (c := #[.int .i64 290]) rfl (by simp [Value.oneCell']) hq2 rfl)
 have hp3 := (setRow_other (Wa.setRow P #[.slice none 0 0]) Q P #[.int .i64 290] hne).trans hp2
 have hq3 := setRow_heap (Wa.setRow P #[.slice none 0 0]) Q _ #[.int .i64 290] _ _ hq2
 have hT3 : Touch (fun x => x = P ∨ x = Q) w ((Wa.setRow P #[.slice none 0 0]).setRow Q #[.int .i64 290]) := by
  have hs : ((Wa.setRow P #[.slice none 0 0]).setRow Q #[.int .i64 290]).heap.size = (Wa.setRow P #[.slice none 0 0]).heap.size := by simp
  exact hT2.step (show Touch (fun x => x = Q) (Wa.setRow P #[.slice none 0 0]) ((Wa.setRow P #[.slice none 0 0]).setRow Q #[.int .i64 290]) from ⟨rfl, rfl, rfl, by rw [hs]; exact Nat.le_refl _, fun b _ hb => setRow_other _ Q b _ hb⟩) (fun x _ h => .inr h)
 have HF := yh (And.intro hp3 (And.intro hq3 hT3))
 clear hB hp1 hq1 hT1 hq2 hp2 hT2 hp3 hq3 hT3
 refine callsD_of_wpS Tryz.func129 rfl fun c₀ cs hu => ?_
 apply wpS_seq
 apply wpS_region
 simp [wpOpsS, go_sem, recoverD, hu, Tryz.ntmps129, Exit.thenS]
 have e : (#[.pointer (some ⟨P, 0, none⟩), .pointer (some ⟨Q, 0, none⟩)] ++ (Array.replicate 11 undef).setIfInBounds 4 badV : Array Value) = #[.pointer (some ⟨P, 0, none⟩), .pointer (some ⟨Q, 0, none⟩), undef, undef, undef, undef, badV, undef, undef, undef, undef, undef, undef] := rfl
 rw [e]
 clear e
 refine wpS_of_wp ?_
 have HU := yh hu
 clear hu
 go_wp2_with (first
  | ((with_reducible apply Kad); exact HS.out; exact rfl; exact rfl)
  | ((with_reducible apply Kad); exact HE.out; exact rfl; exact rfl))
 refine ⟨rfl, .panicking [{ v := badV, recovered := true }], ?_, _, results_none rfl _ _ _, rfl, rfl, HF.out⟩
 rfl
structure RdMid {α : Type} (TY : TypeId) (w W : World) (X : Nat → Prop) (OK : World → α → Array Value → Prop) (Jn : World → Prop) (x : α) (cs : Array Value) (W3 : World) : Prop where
 size : W.heap.size + 3 ≤ W3.heap.size
 b : Below w.heap.size w W3
 keep : ∀ b, b < W.heap.size → ¬ X b → W3.heap[b]? = W.heap[b]?
 q6 : W3.heap[W.heap.size]? = some (.cells cs TY (0, 0))
 q7 : W3.heap[W.heap.size + 1]? = some (.cells #[.int .i64 0] 29 (0, 0))
 ok : OK W3 x cs
 jn : Jn W3
section
variable {α : Type} {TY : TypeId} {w W W2 W3 W4 : World} {X : Nat → Prop} {OK : World → α → Array Value → Prop} {Jn : World → Prop} {x : α} {cs cz z : Array Value} {mk : Array Value → Value} {fails : Prop} {r : Option α}
theorem RdMid.step (h : RdMid TY w W X OK Jn x cs W3) (hw : w.heap.size ≤ W.heap.size) (hOKk : ∀ (W1 W2 : World) x cs, OK W1 x cs → (∀ b, W.heap.size + 3 ≤ b → b < W1.heap.size → W2.heap[b]? = W1.heap[b]?) → OK W2 x cs) (hJn : ∀ W1 W2 : World, Jn W1 → (∀ b, b < W.heap.size → W2.heap[b]? = W1.heap[b]?) → Jn W2)
 (g : Touch (fun b => b = W.heap.size ∨ b = W.heap.size + 1) W3 W4) (q6 : W4.heap[W.heap.size]? = some (.cells cs TY (0, 0))) (q7 : W4.heap[W.heap.size + 1]? = some (.cells #[.int .i64 0] 29 (0, 0))) : RdMid TY w W X OK Jn x cs W4 :=
 ⟨Nat.le_trans h.size g.size, g.below h.b (fun b hb he => by omega) (by have := h.size; omega),
   fun b hb hx => (g.block b (by have := h.size; omega) (by omega)).trans (h.keep b hb hx), q6, q7,
   hOKk _ _ _ _ h.ok fun b h1 h2 => g.block b h2 (by omega), hJn _ _ h.jn fun b hb => g.block b (by have := h.size; omega) (by omega)⟩
theorem RdMid.below (h : RdMid TY w W X OK Jn x cs W3) (hw : w.heap.size ≤ W.heap.size) (hOKk : ∀ (W1 W2 : World) x cs, OK W1 x cs → (∀ b, W.heap.size + 3 ≤ b → b < W1.heap.size → W2.heap[b]? = W1.heap[b]?) → OK W2 x cs) (hJn : ∀ W1 W2 : World, Jn W1 → (∀ b, b < W.heap.size → W2.heap[b]? = W1.heap[b]?) → Jn W2)
 (g : Below W3.heap.size W3 W4) : RdMid TY w W X OK Jn x cs W4 :=
 h.step hw hOKk hJn (Touch.of_below g fun b h1 h2 => absurd h1 (by omega)) (Kak g (by have := h.size; omega) h.q6) (Kak g (by have := h.size; omega) h.q7)
theorem touch_row (W3 : World) (b : Nat) (c : Array Value) {S : Nat → Prop} (hS : S b) : Touch S W3 (W3.setRow b c) :=
 ⟨rfl, rfl, rfl, by simp, fun y _ hy => setRow_other W3 b y c (fun e => hy (e ▸ hS))⟩
theorem RdMid.set6 (h : RdMid TY w W X OK Jn x cs W3) (hw : w.heap.size ≤ W.heap.size) (hOKk : ∀ (W1 W2 : World) x cs, OK W1 x cs → (∀ b, W.heap.size + 3 ≤ b → b < W1.heap.size → W2.heap[b]? = W1.heap[b]?) → OK W2 x cs) (hJn : ∀ W1 W2 : World, Jn W1 → (∀ b, b < W.heap.size → W2.heap[b]? = W1.heap[b]?) → Jn W2) : RdMid TY w W X OK Jn x cs (W3.setRow W.heap.size cs) :=
 h.step hw hOKk hJn (touch_row W3 _ _ (.inl rfl)) (setRow_heap W3 _ _ cs _ _ h.q6) ((setRow_other W3 _ _ cs (by omega)).trans h.q7)
theorem RdMid.set7 (h : RdMid TY w W X OK Jn x cs W3) (hw : w.heap.size ≤ W.heap.size) (hOKk : ∀ (W1 W2 : World) x cs, OK W1 x cs → (∀ b, W.heap.size + 3 ≤ b → b < W1.heap.size → W2.heap[b]? = W1.heap[b]?) → OK W2 x cs) (hJn : ∀ W1 W2 : World, Jn W1 → (∀ b, b < W.heap.size → W2.heap[b]? = W1.heap[b]?) → Jn W2) : RdMid TY w W X OK Jn x cs (W3.setRow (W.heap.size + 1) #[.int .i64 0]) :=
 h.step hw hOKk hJn (touch_row W3 _ _ (.inr rfl)) ((setRow_other W3 _ _ _ (by omega)).trans h.q6) (setRow_heap W3 _ _ _ _ _ h.q7)
theorem RdMid.first (hw : w.heap.size ≤ W.heap.size) (hX : ∀ b, X b → b < W.heap.size) (hOKk : ∀ (W1 W2 : World) x cs, OK W1 x cs → (∀ b, W.heap.size + 3 ≤ b → b < W1.heap.size → W2.heap[b]? = W1.heap[b]?) → OK W2 x cs) (hJn : ∀ W1 W2 : World, Jn W1 → (∀ b, b < W.heap.size → W2.heap[b]? = W1.heap[b]?) → Jn W2)
 (hs2 : W.heap.size + 3 ≤ W2.heap.size) (hb2 : Below w.heap.size w W2) (hk : ∀ b, b < W.heap.size → ¬ X b → W2.heap[b]? = W.heap[b]?) (h6 : W2.heap[W.heap.size]? = some (.cells z TY (0, 0))) (h7 : W2.heap[W.heap.size + 1]? = some (.cells #[.int .i64 0] 29 (0, 0))) (ho : OK W2 x cs) (hj : Jn W2) :
 RdMid TY w W X OK Jn x cs (W2.setRow W.heap.size cs) := by
 have g := touch_row W2 W.heap.size cs (S := fun b => b = W.heap.size ∨ b = W.heap.size + 1) (.inl rfl)
 exact ⟨Nat.le_trans hs2 g.size, g.below hb2 (fun b hb he => by omega) (by omega), fun b hb hx => (g.block b (by omega) (by omega)).trans (hk b hb hx), setRow_heap W2 _ _ cs _ _ h6, (setRow_other W2 _ _ cs (by omega)).trans h7, hOKk _ _ _ _ ho fun b h1 h2 => g.block b h2 (by omega), hJn _ _ hj fun b hb => g.block b (by omega) (by omega)⟩
theorem RdMid.bad (h : RdMid TY w W X OK Jn x cs W3) (hw : w.heap.size ≤ W.heap.size) (g : Touch (fun b => b = W.heap.size ∨ b = W.heap.size + 1) W3 W4) (hr : r = none) (hf : ¬ fails) : ReadPost w W X mk z OK Jn fails r (.returned (.tuple #[mk z, .int .i64 290])) W4 := by
 subst hr
 exact ⟨g.below h.b (fun b hb he => by omega) (by have := h.size; omega), by have := h.size; have := g.size; omega, fun b hb hx => (g.block b (by have := h.size; omega) (by omega)).trans (h.keep b hb hx), rfl, fun k => absurd k hf⟩
theorem RdMid.good (h : RdMid TY w W X OK Jn x cs W3) (hr : r = some x) : ReadPost w W X mk z OK Jn fails r (.returned (.tuple #[mk cs, .int .i64 0])) W3 := by
 subst hr
 exact ⟨h.b, by have := h.size; omega, h.keep, cs, rfl, h.ok, h.jn⟩
end
theorem leavesG_bad {fn : Func} {tmps : Array Value} {R : Ending → World → Prop} {W2 : World} {z : Array Value} {n : Int} {B6 B7 : Nat} (h6 : W2.heap[B6]? = some (.cells z 25 (0, 0))) (hz : z.size = 4) (h7 : W2.heap[B7]? = some (.cells #[.int .i64 n] 29 (0, 0))) (hne : B6 ≠ B7)
 (hres : fn.results = #[.cell 6 25, .cell 7 29]) (t6 : tmps.getD 6 undef = .pointer (some ⟨B6, 0, none⟩)) (t7 : tmps.getD 7 undef = .pointer (some ⟨B7, 0, none⟩))
 (hR : ∀ W3, Touch (fun x => x = B6 ∨ x = B7) W2 W3 → R (.returned (.tuple #[.agg #[.slice none 0 0, .slice none 0 0, .int .i64 0, .int .i64 0], .int .i64 290])) W3) :
 Leaves Tryz.prog fn tmps R [{ target := .fn (.func 104) #[.pointer (some ⟨B6, 0, none⟩), .pointer (some ⟨B7, 0, none⟩)], args := #[] }] (.panicking [{ v := badV, recovered := false }]) W2 := by
 refine leaves_cons (f := 104) (args := #[.pointer (some ⟨B6, 0, none⟩), .pointer (some ⟨B7, 0, none⟩)]) (by simp) (Ka6 Tryz.func104 rfl rfl _ _) ((caughtG h6 hz h7 hne).mono ?_)
 rintro e u' w' ⟨rfl, rfl, g1, g2, gT⟩
 exact ⟨_, Kbk hres _ _ ⟨B6, 0, none⟩ ⟨B7, 0, none⟩ (.agg #[.slice none 0 0, .slice none 0 0, .int .i64 0, .int .i64 0]) (.int .i64 290) t6 t7 (Kcp.get rfl g1) (Kbw.get rfl g2), hR _ gT⟩
theorem leavesG_ok {fn : Func} {tmps : Array Value} {R : Ending → World → Prop} {W2 : World} {z : Array Value} {B6 B7 : Nat} (h6 : W2.heap[B6]? = some (.cells z 25 (0, 0))) (hz : z.size = 4) (h7 : W2.heap[B7]? = some (.cells #[.int .i64 0] 29 (0, 0)))
 (hres : fn.results = #[.cell 6 25, .cell 7 29]) (t6 : tmps.getD 6 undef = .pointer (some ⟨B6, 0, none⟩)) (t7 : tmps.getD 7 undef = .pointer (some ⟨B7, 0, none⟩))
 (hR : R (.returned (.tuple #[.agg z, .int .i64 0])) W2) :
 Leaves Tryz.prog fn tmps R [{ target := .fn (.func 104) #[.pointer (some ⟨B6, 0, none⟩), .pointer (some ⟨B7, 0, none⟩)], args := #[] }] .returning W2 := by
 refine leaves_cons (f := 104) (args := #[.pointer (some ⟨B6, 0, none⟩), .pointer (some ⟨B7, 0, none⟩)]) (by simp) (Ka6 Tryz.func104 rfl rfl _ _) ((idleG _ _ _).mono ?_)
 rintro e u' w' ⟨rfl, rfl, rfl⟩
 exact ⟨_, Kbk hres _ _ ⟨B6, 0, none⟩ ⟨B7, 0, none⟩ (.agg z) (.int .i64 0) t6 t7 (Kcp.get hz h6) (Kbw.get rfl h7), hR⟩
theorem readG_any {α : Type} (d : Dec α) (okB : α → Bool) {w W : World} {p : Option Addr} {c : Nat} {bs : List UInt8} (hb : Below w.heap.size w W) (hrd : RdB w (.slice p bs.length c) bs) (hlb : bs.length ≤ 1000000) (X : Nat → Prop) (hX : ∀ b, X b → b < W.heap.size)
 (Jn : World → Prop) (hJn : ∀ W1 W2 : World, Jn W1 → (∀ b, b < W.heap.size → W2.heap[b]? = W1.heap[b]?) → Jn W2)
 (OK : World → α → Array Value → Prop) (hOKs : ∀ W1 x cs, OK W1 x cs → cs.size = 4 ∧ ∀ u ∈ cs.toList, u.oneCell' = true)
 (hOKk : ∀ (W1 W2 : World) x cs, OK W1 x cs → (∀ b, W.heap.size + 3 ≤ b → b < W1.heap.size → W2.heap[b]? = W1.heap[b]?) → OK W2 x cs)
 (one : ∀ W1 : World, W1.heap.size = W.heap.size + 3 → RSt 141 w W1 (W.heap.size + 2) bs → (∀ b, b < W.heap.size → W1.heap[b]? = W.heap[b]?) → Calls Tryz.prog 50 #[.pointer (some ⟨W.heap.size + 2, 0, none⟩)] W1 fun e W2 =>
   W1.heap.size ≤ W2.heap.size ∧ Below w.heap.size w W2 ∧ (∀ b, b < W1.heap.size → b ≠ W.heap.size + 2 → ¬ X b → W2.heap[b]? = W1.heap[b]?) ∧ ((d bs = none ∧ e = given ∧ ∀ b, X b → W2.heap[b]? = W1.heap[b]?) ∨ ∃ x s cs, d bs = some (x, s) ∧ e = .returned (.agg cs) ∧ OK W2 x cs ∧ RSt 141 w W2 (W.heap.size + 2) s ∧ s.length ≤ bs.length ∧ Jn W2))
 (fine : ∀ W1 x s cs, d bs = some (x, s) → OK W1 x cs → Below w.heap.size w W1 → Calls Tryz.prog 56 #[.agg cs] W1 fun e W2 => e = .returned (.bool (okB x)) ∧ Below W1.heap.size W1 W2) :
 Calls Tryz.prog 49 #[.slice p bs.length c, .func (.func 50) #[] #[], .func (.func 56) #[] #[]] W (ReadPost w W X .agg #[.slice none 0 0, .slice none 0 0, .int .i64 0, .int .i64 0] OK Jn (d bs = none) (readW d okB bs)) := by
 have zl : (bs.length : Int) ≤ 1000000 := by omega
 have hws := hb.size
 have hb1 : Below W.heap.size W (((W.alloc (.cells #[.slice none 0 0, .slice none 0 0, .int .i64 0, .int .i64 0] 25)).alloc (.cells #[.int .i64 0] 29)).alloc (.cells #[.slice p bs.length c] 141)) := ((Kac _).alloc (by simp) _).alloc (by simp; omega) _
 have p6 : (((W.alloc (.cells #[.slice none 0 0, .slice none 0 0, .int .i64 0, .int .i64 0] 25)).alloc (.cells #[.int .i64 0] 29)).alloc (.cells #[.slice p bs.length c] 141)).heap[W.heap.size]? = some (.cells #[.slice none 0 0, .slice none 0 0, .int .i64 0, .int .i64 0] 25 (0, 0)) := by
  simp only [Kaf, World.size_alloc]; rw [if_neg (by omega), if_neg (by omega), if_pos trivial]
 have p7 : (((W.alloc (.cells #[.slice none 0 0, .slice none 0 0, .int .i64 0, .int .i64 0] 25)).alloc (.cells #[.int .i64 0] 29)).alloc (.cells #[.slice p bs.length c] 141)).heap[W.heap.size + 1]? = some (.cells #[.int .i64 0] 29 (0, 0)) := by
  simp only [Kaf, World.size_alloc]; rw [if_neg (by omega), if_pos trivial]
 have p8 : (((W.alloc (.cells #[.slice none 0 0, .slice none 0 0, .int .i64 0, .int .i64 0] 25)).alloc (.cells #[.int .i64 0] 29)).alloc (.cells #[.slice p bs.length c] 141)).heap[W.heap.size + 2]? = some (.cells #[.slice p bs.length c] 141 (0, 0)) := by
  have e : W.heap.size + 2 = W.heap.size + 1 + 1 := rfl
  rw [e]; simp only [Kaf, World.size_alloc]; rw [if_pos trivial]
 have hsz : (((W.alloc (.cells #[.slice none 0 0, .slice none 0 0, .int .i64 0, .int .i64 0] 25)).alloc (.cells #[.int .i64 0] 29)).alloc (.cells #[.slice p bs.length c] 141)).heap.size = W.heap.size + 3 := by simp
 have hone := one _ hsz ⟨Kaa hb hb1, by omega, p, c, p8, hrd⟩ (fun b hbb => hb1.block b hbb)
 have HO := yh hone
 have HP := yh (And.intro hb1 (And.intro p6 (And.intro p7 hsz)))
 have HFN := yh fine
 have HOS := yh hOKs
 have HOK := yh hOKk
 have HJ := yh hJn
 have HB0 := yh hb
 clear hone hb1 p6 p7 p8 fine hOKs hOKk hJn one hrd hb
 have back : ∀ W2 W3 : World, (((W.alloc (.cells #[.slice none 0 0, .slice none 0 0, .int .i64 0, .int .i64 0] 25)).alloc (.cells #[.int .i64 0] 29)).alloc (.cells #[.slice p bs.length c] 141)).heap.size ≤ W2.heap.size → (∀ b, b < (((W.alloc (.cells #[.slice none 0 0, .slice none 0 0, .int .i64 0, .int .i64 0] 25)).alloc (.cells #[.int .i64 0] 29)).alloc (.cells #[.slice p bs.length c] 141)).heap.size → b ≠ W.heap.size + 2 → ¬ X b → W2.heap[b]? = (((W.alloc (.cells #[.slice none 0 0, .slice none 0 0, .int .i64 0, .int .i64 0] 25)).alloc (.cells #[.int .i64 0] 29)).alloc (.cells #[.slice p bs.length c] 141)).heap[b]?) →
  W2.heap.size ≤ W3.heap.size → (∀ b, b < W2.heap.size → b ≠ W.heap.size → b ≠ W.heap.size + 1 → W3.heap[b]? = W2.heap[b]?) → W.heap.size ≤ W3.heap.size ∧ ∀ b, b < W.heap.size → ¬ X b → W3.heap[b]? = W.heap[b]? := by
  intro W2 W3 h1 h2 h3 h4
  have hs := HP.out.2.2.2
  exact ⟨by omega, fun b hb1 hbx => (h4 b (by omega) (by omega) (by omega)).trans ((h2 b (by omega) (by omega) hbx).trans (HP.out.1.block b hb1))⟩
 have HBK := yh back
 clear back
 refine calls_of_wp_defers Tryz.func49 rfl ?_
 simp only [Tryz.ntmps49, List.size_toArray, List.length_cons, List.length_nil, Nat.reduceAdd, Nat.reduceSub, Array.replicate_succ, Array.replicate_zero, List.push_toArray, List.append_toArray, List.nil_append, List.cons_append]
 have hres : Tryz.f49.results = #[.cell 6 25, .cell 7 29] := rfl
 cases hd : d bs with
 | none =>
   have HRW := yh (readW_none (ok := okB) hd)
   have HD := yh hd
   clear hd
   go_wp2_with (go_at_call 50; refine HO.out.mono ?_; rintro e W2 ⟨hs2, hb2, hk2, ⟨_, rfl, hx2⟩ | ⟨x, s, cs, he, _⟩⟩; rotate_left; exact absurd he (by rw [HD.out]; simp); have H2 := yh (And.intro hs2 (And.intro hb2 (And.intro hk2 hx2))); clear hs2 hb2 hk2 hx2)
   obtain ⟨hs2, hb2, hk2, hx2⟩ := H2.out
   obtain ⟨hb1, p6, p7, hsz⟩ := HP.out
   have hs3 : W.heap.size + 3 ≤ W2.heap.size := by omega
   refine leavesG_bad (n := 0) ((hk2 _ (by omega) (by omega) (fun h => by have := hX _ h; omega)).trans p6) rfl ((hk2 _ (by omega) (by omega) (fun h => by have := hX _ h; omega)).trans p7) (by omega) hres rfl rfl fun W3 hT => ?_
   obtain ⟨g1, g2⟩ := HBK.out W2 W3 hs2 hk2 hT.size (fun b hb h6 h7 => hT.block b hb (fun h => h.elim h6 h7))
   refine ⟨hT.below hb2 (fun b hb he => by omega) (by omega), g1, g2, ?_⟩
   rw [HRW.out]
   exact ⟨rfl, fun _ b hb => (hT.block b (by have := hX b hb; omega) (by have := hX b hb; omega)).trans ((hx2 b hb).trans (hb1.block b (hX b hb)))⟩
 | some pr =>
   obtain ⟨x, s⟩ := pr
   have HD := yh hd
   clear hd
   have hND : ¬ (d bs = none) := by rw [HD.out]; simp
   have HND := yh hND
   clear hND
   have mid : ∀ W2 cs, (((W.alloc (.cells #[.slice none 0 0, .slice none 0 0, .int .i64 0, .int .i64 0] 25)).alloc (.cells #[.int .i64 0] 29)).alloc (.cells #[.slice p bs.length c] 141)).heap.size ≤ W2.heap.size → Below w.heap.size w W2 → (∀ b, b < (((W.alloc (.cells #[.slice none 0 0, .slice none 0 0, .int .i64 0, .int .i64 0] 25)).alloc (.cells #[.int .i64 0] 29)).alloc (.cells #[.slice p bs.length c] 141)).heap.size → b ≠ W.heap.size + 2 → ¬ X b → W2.heap[b]? = (((W.alloc (.cells #[.slice none 0 0, .slice none 0 0, .int .i64 0, .int .i64 0] 25)).alloc (.cells #[.int .i64 0] 29)).alloc (.cells #[.slice p bs.length c] 141)).heap[b]?) →
    OK W2 x cs → RSt 141 w W2 (W.heap.size + 2) s → Jn W2 → W2.heap[W.heap.size]? = some (.cells #[.slice none 0 0, .slice none 0 0, .int .i64 0, .int .i64 0] 25 (0, 0)) ∧ RdMid 25 w W X OK Jn x cs (W2.setRow W.heap.size cs) ∧ ∃ p' c', (W2.setRow W.heap.size cs).cell? ⟨W.heap.size + 2, 0, none⟩ = some (.slice p' s.length c') := by
    intro W2 cs hs2 hb2 hk2 hO hR hj
    obtain ⟨hb1, p6, p7, hsz⟩ := HP.out
    have h6 := (hk2 W.heap.size (by omega) (by omega) (fun h => by have := hX _ h; omega)).trans p6
    obtain ⟨p', c', hq, _⟩ := hR.box
    exact ⟨h6, RdMid.first hws hX HOK.out HJ.out (by omega) hb2 (fun b hb hx => (hk2 b (by omega) (by omega) hx).trans (hb1.block b hb)) h6 ((hk2 (W.heap.size + 1) (by omega) (by omega) (fun h => by have := hX _ h; omega)).trans p7) hO hj,
     p', c', Kab (o := 0) ((setRow_other W2 W.heap.size (W.heap.size + 2) cs (by omega)).trans hq) rfl⟩
   have HM := yh mid
   clear mid HP
   by_cases hs : s = []
   ·subst hs
    cases hok : okB x with
    | true =>
      have HRW := yh (readW_yes HD.out hok)
      have HOKB := yh hok
      clear hok
      go_wp2_with (first
       | (go_at_call 50; refine HO.out.mono ?_; rintro e W2 ⟨hs2, hb2, hk2, ⟨hn, _⟩ | ⟨x', s', cs, he, rfl, hO, hR2, hl2, hj⟩⟩; exact absurd hn HND.out; obtain ⟨rfl, rfl⟩ : x = x' ∧ [] = s' := (by have e := HD.out.symm.trans he; simpa using e); obtain ⟨hcs, hcell⟩ := HOS.out W2 x cs hO; obtain ⟨h6, hm, p', c', hq⟩ := HM.out W2 cs hs2 hb2 hk2 hO hR2 hj; have HST := yh (Kcp.put hcs hcell h6 rfl); generalize W2.setRow W.heap.size cs = W3 at *; have HF := yh (HFN.out W3 x [] cs he hm.ok hm.b); have HL := yh (Kcp.get hcs hm.q6); have HMID := yh hm; have HCS := yh (And.intro hcs hcell); simp only [List.length_nil] at hq; clear hs2 hb2 hk2 he hO hR2 hl2 hj hcs hcell h6 hm HO HM HFN)
       | (go_at_call 56; refine HF.out.mono ?_; rintro e W4 ⟨rfl, hB4⟩; have hm4 := HMID.out.below hws HOK.out HJ.out hB4; have HL4 := yh (Kcp.get HCS.out.1 hm4.q6); have HS4 := yh (Kcp.put HCS.out.1 HCS.out.2 hm4.q6 HCS.out.1); have hm5 := hm4.set6 hws HOK.out HJ.out; have HS5 := yh (Kbw.put (c := #[.int .i64 0]) rfl (by simp [Value.oneCell']) hm5.q7 rfl); have HM6 := yh (hm5.set7 hws HOK.out HJ.out); clear hm4 hm5 hB4 HF hq HL HST; rw [HOKB.out])
       | (go_at_call 105; refine (Kap _).mono ?_; rintro e W' ⟨rfl, rfl⟩)
       | ((with_reducible apply Kad); exact HST.out; exact rfl; exact rfl)
       | ((with_reducible apply Kad); exact HS4.out; exact rfl; exact rfl)
       | ((with_reducible apply Kad); exact HS5.out; exact rfl; exact rfl)
       | ((with_reducible apply Kal); exact HL4.out; exact rfl)
       | ((with_reducible apply Kdr); exact HL.out; exact rfl; exact rfl))
      exact leavesG_ok HM6.out.q6 HCS.out.1 HM6.out.q7 hres rfl rfl (HM6.out.good HRW.out)
    | false =>
      have HRW := yh (readW_no HD.out hok)
      have HOKB := yh hok
      clear hok
      go_wp2_with (first
       | (go_at_call 50; refine HO.out.mono ?_; rintro e W2 ⟨hs2, hb2, hk2, ⟨hn, _⟩ | ⟨x', s', cs, he, rfl, hO, hR2, hl2, hj⟩⟩; exact absurd hn HND.out; obtain ⟨rfl, rfl⟩ : x = x' ∧ [] = s' := (by have e := HD.out.symm.trans he; simpa using e); obtain ⟨hcs, hcell⟩ := HOS.out W2 x cs hO; obtain ⟨h6, hm, p', c', hq⟩ := HM.out W2 cs hs2 hb2 hk2 hO hR2 hj; have HST := yh (Kcp.put hcs hcell h6 rfl); generalize W2.setRow W.heap.size cs = W3 at *; have HF := yh (HFN.out W3 x [] cs he hm.ok hm.b); have HL := yh (Kcp.get hcs hm.q6); have HMID := yh hm; have HCS := yh (And.intro hcs hcell); simp only [List.length_nil] at hq; clear hs2 hb2 hk2 he hO hR2 hl2 hj hcs hcell h6 hm HO HM HFN)
       | (go_at_call 56; refine HF.out.mono ?_; rintro e W4 ⟨rfl, hB4⟩; have HM4 := yh (HMID.out.below hws HOK.out HJ.out hB4); clear hB4 HF hq HL HST; rw [HOKB.out])
       | (go_at_call 105; refine (Ka1 _).mono ?_; rintro e W' ⟨rfl, rfl⟩)
       | ((with_reducible apply Kad); exact HST.out; exact rfl; exact rfl)
       | ((with_reducible apply Kdr); exact HL.out; exact rfl; exact rfl))
      exact leavesG_bad HM4.out.q6 HCS.out.1 HM4.out.q7 (by omega) hres rfl rfl fun W5 hT => HM4.out.bad hws hT HRW.out (by first | exact HND.out | exact fun h => h)
   ·have HRW := yh (readW_left (ok := okB) HD.out hs)
    have hls : decide (((s.length : Int)) = 0) = false := by
     have : s.length ≠ 0 := fun h => hs (List.length_eq_zero_iff.1 h)
     simp only [decide_eq_false_iff_not]; omega
    have HS0 := yh hs
    clear hs
    go_wp2_with (first
     | (go_at_call 50; refine HO.out.mono ?_; rintro e W2 ⟨hs2, hb2, hk2, ⟨hn, _⟩ | ⟨x', s', cs, he, rfl, hO, hR2, hl2, hj⟩⟩; exact absurd hn HND.out; obtain ⟨rfl, rfl⟩ : x = x' ∧ s = s' := (by have e := HD.out.symm.trans he; simpa using e); obtain ⟨hcs, hcell⟩ := HOS.out W2 x cs hO; obtain ⟨h6, hm, p', c', hq⟩ := HM.out W2 cs hs2 hb2 hk2 hO hR2 hj; have HST := yh (Kcp.put hcs hcell h6 rfl); generalize W2.setRow W.heap.size cs = W3 at *; have HMID := yh hm; have HCS := yh (And.intro hcs hcell); clear hs2 hb2 hk2 he hO hR2 hl2 hj hcs hcell h6 hm HO HM HFN)
     | (go_at_call 105; refine (Ka1 _).mono ?_; rintro e W' ⟨rfl, rfl⟩)
     | ((with_reducible apply Kad); exact HST.out; exact rfl; exact rfl))
    exact leavesG_bad HMID.out.q6 HCS.out.1 HMID.out.q7 (by omega) hres rfl rfl fun W5 hT => HMID.out.bad hws hT HRW.out (by first | exact HND.out | exact fun h => h)
theorem leavesV_bad {fn : Func} {tmps : Array Value} {R : Ending → World → Prop} {W2 : World} {z : Array Value} {n : Int} {B6 B7 : Nat} (h6 : W2.heap[B6]? = some (.cells z 48 (0, 0))) (hz : z.size = 6) (h7 : W2.heap[B7]? = some (.cells #[.int .i64 n] 29 (0, 0))) (hne : B6 ≠ B7)
 (hres : fn.results = #[.cell 6 48, .cell 7 29]) (t6 : tmps.getD 6 undef = .pointer (some ⟨B6, 0, none⟩)) (t7 : tmps.getD 7 undef = .pointer (some ⟨B7, 0, none⟩))
 (hR : ∀ W3, Touch (fun x => x = B6 ∨ x = B7) W2 W3 → R (.returned (.tuple #[.agg #[.int .i64 0, .bool false, .int .i64 0, .string ⟨#[]⟩, .slice none 0 0, .slice none 0 0], .int .i64 290])) W3) :
 Leaves Tryz.prog fn tmps R [{ target := .fn (.func 121) #[.pointer (some ⟨B6, 0, none⟩), .pointer (some ⟨B7, 0, none⟩)], args := #[] }] (.panicking [{ v := badV, recovered := false }]) W2 := by
 refine leaves_cons (f := 121) (args := #[.pointer (some ⟨B6, 0, none⟩), .pointer (some ⟨B7, 0, none⟩)]) (by simp) (Ka6 Tryz.func121 rfl rfl _ _) ((caughtV h6 hz h7 hne).mono ?_)
 rintro e u' w' ⟨rfl, rfl, g1, g2, gT⟩
 exact ⟨_, Kbk hres _ _ ⟨B6, 0, none⟩ ⟨B7, 0, none⟩ (.agg #[.int .i64 0, .bool false, .int .i64 0, .string ⟨#[]⟩, .slice none 0 0, .slice none 0 0]) (.int .i64 290) t6 t7 (vt_val.get rfl g1) (Kbw.get rfl g2), hR _ gT⟩
theorem leavesV_ok {fn : Func} {tmps : Array Value} {R : Ending → World → Prop} {W2 : World} {z : Array Value} {B6 B7 : Nat} (h6 : W2.heap[B6]? = some (.cells z 48 (0, 0))) (hz : z.size = 6) (h7 : W2.heap[B7]? = some (.cells #[.int .i64 0] 29 (0, 0)))
 (hres : fn.results = #[.cell 6 48, .cell 7 29]) (t6 : tmps.getD 6 undef = .pointer (some ⟨B6, 0, none⟩)) (t7 : tmps.getD 7 undef = .pointer (some ⟨B7, 0, none⟩))
 (hR : R (.returned (.tuple #[.agg z, .int .i64 0])) W2) :
 Leaves Tryz.prog fn tmps R [{ target := .fn (.func 121) #[.pointer (some ⟨B6, 0, none⟩), .pointer (some ⟨B7, 0, none⟩)], args := #[] }] .returning W2 := by
 refine leaves_cons (f := 121) (args := #[.pointer (some ⟨B6, 0, none⟩), .pointer (some ⟨B7, 0, none⟩)]) (by simp) (Ka6 Tryz.func121 rfl rfl _ _) ((idleV _ _ _).mono ?_)
 rintro e u' w' ⟨rfl, rfl, rfl⟩
 exact ⟨_, Kbk hres _ _ ⟨B6, 0, none⟩ ⟨B7, 0, none⟩ (.agg z) (.int .i64 0) t6 t7 (vt_val.get hz h6) (Kbw.get rfl h7), hR⟩
theorem readV_any {α : Type} (d : Dec α) (okB : α → Bool) {w W : World} {p : Option Addr} {c : Nat} {bs : List UInt8} (hb : Below w.heap.size w W) (hrd : RdB w (.slice p bs.length c) bs) (hlb : bs.length ≤ 1000000) (X : Nat → Prop) (hX : ∀ b, X b → b < W.heap.size)
 (Jn : World → Prop) (hJn : ∀ W1 W2 : World, Jn W1 → (∀ b, b < W.heap.size → W2.heap[b]? = W1.heap[b]?) → Jn W2)
 (OK : World → α → Array Value → Prop) (hOKs : ∀ W1 x cs, OK W1 x cs → cs.size = 6 ∧ ∀ u ∈ cs.toList, u.oneCell' = true)
 (hOKk : ∀ (W1 W2 : World) x cs, OK W1 x cs → (∀ b, W.heap.size + 3 ≤ b → b < W1.heap.size → W2.heap[b]? = W1.heap[b]?) → OK W2 x cs)
 (one : ∀ W1 : World, W1.heap.size = W.heap.size + 3 → RSt 141 w W1 (W.heap.size + 2) bs → (∀ b, b < W.heap.size → W1.heap[b]? = W.heap[b]?) → Calls Tryz.prog 70 #[.pointer (some ⟨W.heap.size + 2, 0, none⟩)] W1 fun e W2 =>
   W1.heap.size ≤ W2.heap.size ∧ Below w.heap.size w W2 ∧ (∀ b, b < W1.heap.size → b ≠ W.heap.size + 2 → ¬ X b → W2.heap[b]? = W1.heap[b]?) ∧ ((d bs = none ∧ e = given ∧ ∀ b, X b → W2.heap[b]? = W1.heap[b]?) ∨ ∃ x s cs, d bs = some (x, s) ∧ e = .returned (.agg cs) ∧ OK W2 x cs ∧ RSt 141 w W2 (W.heap.size + 2) s ∧ s.length ≤ bs.length ∧ Jn W2))
 (fine : ∀ W1 x s cs, d bs = some (x, s) → OK W1 x cs → Below w.heap.size w W1 → Calls Tryz.prog 72 #[.agg cs] W1 fun e W2 => e = .returned (.bool (okB x)) ∧ Below W1.heap.size W1 W2) :
 Calls Tryz.prog 69 #[.slice p bs.length c, .func (.func 70) #[] #[], .func (.func 72) #[] #[]] W (ReadPost w W X .agg #[.int .i64 0, .bool false, .int .i64 0, .string ⟨#[]⟩, .slice none 0 0, .slice none 0 0] OK Jn (d bs = none) (readW d okB bs)) := by
 have zl : (bs.length : Int) ≤ 1000000 := by omega
 have hws := hb.size
 have hb1 : Below W.heap.size W (((W.alloc (.cells #[.int .i64 0, .bool false, .int .i64 0, .string ⟨#[]⟩, .slice none 0 0, .slice none 0 0] 48)).alloc (.cells #[.int .i64 0] 29)).alloc (.cells #[.slice p bs.length c] 141)) := ((Kac _).alloc (by simp) _).alloc (by simp; omega) _
 have p6 : (((W.alloc (.cells #[.int .i64 0, .bool false, .int .i64 0, .string ⟨#[]⟩, .slice none 0 0, .slice none 0 0] 48)).alloc (.cells #[.int .i64 0] 29)).alloc (.cells #[.slice p bs.length c] 141)).heap[W.heap.size]? = some (.cells #[.int .i64 0, .bool false, .int .i64 0, .string ⟨#[]⟩, .slice none 0 0, .slice none 0 0] 48 (0, 0)) := by
  simp only [Kaf, World.size_alloc]; rw [if_neg (by omega), if_neg (by omega), if_pos trivial]
 have p7 : (((W.alloc (.cells #[.int .i64 0, .bool false, .int .i64 0, .string ⟨#[]⟩, .slice none 0 0, .slice none 0 0] 48)).alloc (.cells #[.int .i64 0] 29)).alloc (.cells #[.slice p bs.length c] 141)).heap[W.heap.size + 1]? = some (.cells #[.int .i64 0] 29 (0, 0)) := by
  simp only [Kaf, World.size_alloc]; rw [if_neg (by omega), if_pos trivial]
 have p8 : (((W.alloc (.cells #[.int .i64 0, .bool false, .int .i64 0, .string ⟨#[]⟩, .slice none 0 0, .slice none 0 0] 48)).alloc (.cells #[.int .i64 0] 29)).alloc (.cells #[.slice p bs.length c] 141)).heap[W.heap.size + 2]? = some (.cells #[.slice p bs.length c] 141 (0, 0)) := by
  have e : W.heap.size + 2 = W.heap.size + 1 + 1 := rfl
  rw [e]; simp only [Kaf, World.size_alloc]; rw [if_pos trivial]
 have hsz : (((W.alloc (.cells #[.int .i64 0, .bool false, .int .i64 0, .string ⟨#[]⟩, .slice none 0 0, .slice none 0 0] 48)).alloc (.cells #[.int .i64 0] 29)).alloc (.cells #[.slice p bs.length c] 141)).heap.size = W.heap.size + 3 := by simp
 have hone := one _ hsz ⟨Kaa hb hb1, by omega, p, c, p8, hrd⟩ (fun b hbb => hb1.block b hbb)
 have HO := yh hone
 have HP := yh (And.intro hb1 (And.intro p6 (And.intro p7 hsz)))
 have HFN := yh fine
 have HOS := yh hOKs
 have HOK := yh hOKk
 have HJ := yh hJn
 have HB0 := yh hb
 clear hone hb1 p6 p7 p8 fine hOKs hOKk hJn one hrd hb
 have back : ∀ W2 W3 : World, (((W.alloc (.cells #[.int .i64 0, .bool false, .int .i64 0, .string ⟨#[]⟩, .slice none 0 0, .slice none 0 0] 48)).alloc (.cells #[.int .i64 0] 29)).alloc (.cells #[.slice p bs.length c] 141)).heap.size ≤ W2.heap.size → (∀ b, b < (((W.alloc (.cells #[.int .i64 0, .bool false, .int .i64 0, .string ⟨#[]⟩, .slice none 0 0, .slice none 0 0] 48)).alloc (.cells #[.int .i64 0] 29)).alloc (.cells #[.slice p bs.length c] 141)).heap.size → b ≠ W.heap.size + 2 → ¬ X b → W2.heap[b]? = (((W.alloc (.cells #[.int .i64 0, .bool false, .int .i64 0, .string ⟨#[]⟩, .slice none 0 0, .slice none 0 0] 48)).alloc (.cells #[.int .i64 0] 29)).alloc (.cells #[.slice p bs.length c] 141)).heap[b]?) →
  W2.heap.size ≤ W3.heap.size → (∀ b, b < W2.heap.size → b ≠ W.heap.size → b ≠ W.heap.size + 1 → W3.heap[b]? = W2.heap[b]?) → W.heap.size ≤ W3.heap.size ∧ ∀ b, b < W.heap.size → ¬ X b → W3.heap[b]? = W.heap[b]? := by
  intro W2 W3 h1 h2 h3 h4
  have hs := HP.out.2.2.2
  exact ⟨by omega, fun b hb1 hbx => (h4 b (by omega) (by omega) (by omega)).trans ((h2 b (by omega) (by omega) hbx).trans (HP.out.1.block b hb1))⟩
 have HBK := yh back
 clear back
 refine calls_of_wp_defers Tryz.func69 rfl ?_
 simp only [Tryz.ntmps69, List.size_toArray, List.length_cons, List.length_nil, Nat.reduceAdd, Nat.reduceSub, Array.replicate_succ, Array.replicate_zero, List.push_toArray, List.append_toArray, List.nil_append, List.cons_append]
 have hres : Tryz.f69.results = #[.cell 6 48, .cell 7 29] := rfl
 cases hd : d bs with
 | none =>
   have HRW := yh (readW_none (ok := okB) hd)
   have HD := yh hd
   clear hd
   go_wp2_with (go_at_call 70; refine HO.out.mono ?_; rintro e W2 ⟨hs2, hb2, hk2, ⟨_, rfl, hx2⟩ | ⟨x, s, cs, he, _⟩⟩; rotate_left; exact absurd he (by rw [HD.out]; simp); have H2 := yh (And.intro hs2 (And.intro hb2 (And.intro hk2 hx2))); clear hs2 hb2 hk2 hx2)
   obtain ⟨hs2, hb2, hk2, hx2⟩ := H2.out
   obtain ⟨hb1, p6, p7, hsz⟩ := HP.out
   have hs3 : W.heap.size + 3 ≤ W2.heap.size := by omega
   refine leavesV_bad (n := 0) ((hk2 _ (by omega) (by omega) (fun h => by have := hX _ h; omega)).trans p6) rfl ((hk2 _ (by omega) (by omega) (fun h => by have := hX _ h; omega)).trans p7) (by omega) hres rfl rfl fun W3 hT => ?_
   obtain ⟨g1, g2⟩ := HBK.out W2 W3 hs2 hk2 hT.size (fun b hb h6 h7 => hT.block b hb (fun h => h.elim h6 h7))
   refine ⟨hT.below hb2 (fun b hb he => by omega) (by omega), g1, g2, ?_⟩
   rw [HRW.out]
   exact ⟨rfl, fun _ b hb => (hT.block b (by have := hX b hb; omega) (by have := hX b hb; omega)).trans ((hx2 b hb).trans (hb1.block b (hX b hb)))⟩
 | some pr =>
   obtain ⟨x, s⟩ := pr
   have HD := yh hd
   clear hd
   have hND : ¬ (d bs = none) := by rw [HD.out]; simp
   have HND := yh hND
   clear hND
   have mid : ∀ W2 cs, (((W.alloc (.cells #[.int .i64 0, .bool false, .int .i64 0, .string ⟨#[]⟩, .slice none 0 0, .slice none 0 0] 48)).alloc (.cells #[.int .i64 0] 29)).alloc (.cells #[.slice p bs.length c] 141)).heap.size ≤ W2.heap.size → Below w.heap.size w W2 → (∀ b, b < (((W.alloc (.cells #[.int .i64 0, .bool false, .int .i64 0, .string ⟨#[]⟩, .slice none 0 0, .slice none 0 0] 48)).alloc (.cells #[.int .i64 0] 29)).alloc (.cells #[.slice p bs.length c] 141)).heap.size → b ≠ W.heap.size + 2 → ¬ X b → W2.heap[b]? = (((W.alloc (.cells #[.int .i64 0, .bool false, .int .i64 0, .string ⟨#[]⟩, .slice none 0 0, .slice none 0 0] 48)).alloc (.cells #[.int .i64 0] 29)).alloc (.cells #[.slice p bs.length c] 141)).heap[b]?) →
    OK W2 x cs → RSt 141 w W2 (W.heap.size + 2) s → Jn W2 → W2.heap[W.heap.size]? = some (.cells #[.int .i64 0, .bool false, .int .i64 0, .string ⟨#[]⟩, .slice none 0 0, .slice none 0 0] 48 (0, 0)) ∧ RdMid 48 w W X OK Jn x cs (W2.setRow W.heap.size cs) ∧ ∃ p' c', (W2.setRow W.heap.size cs).cell? ⟨W.heap.size + 2, 0, none⟩ = some (.slice p' s.length c') := by
    intro W2 cs hs2 hb2 hk2 hO hR hj
    obtain ⟨hb1, p6, p7, hsz⟩ := HP.out
    have h6 := (hk2 W.heap.size (by omega) (by omega) (fun h => by have := hX _ h; omega)).trans p6
    obtain ⟨p', c', hq, _⟩ := hR.box
    exact ⟨h6, RdMid.first hws hX HOK.out HJ.out (by omega) hb2 (fun b hb hx => (hk2 b (by omega) (by omega) hx).trans (hb1.block b hb)) h6 ((hk2 (W.heap.size + 1) (by omega) (by omega) (fun h => by have := hX _ h; omega)).trans p7) hO hj,
     p', c', Kab (o := 0) ((setRow_other W2 W.heap.size (W.heap.size + 2) cs (by omega)).trans hq) rfl⟩
   have HM := yh mid
   clear mid HP
   by_cases hs : s = []
   ·subst hs
    cases hok : okB x with
    | true =>
      have HRW := yh (readW_yes HD.out hok)
      have HOKB := yh hok
      clear hok
      go_wp2_with (first
       | (go_at_call 70; refine HO.out.mono ?_; rintro e W2 ⟨hs2, hb2, hk2, ⟨hn, _⟩ | ⟨x', s', cs, he, rfl, hO, hR2, hl2, hj⟩⟩; exact absurd hn HND.out; obtain ⟨rfl, rfl⟩ : x = x' ∧ [] = s' := (by have e := HD.out.symm.trans he; simpa using e); obtain ⟨hcs, hcell⟩ := HOS.out W2 x cs hO; obtain ⟨h6, hm, p', c', hq⟩ := HM.out W2 cs hs2 hb2 hk2 hO hR2 hj; have HST := yh (vt_val.put hcs hcell h6 rfl); generalize W2.setRow W.heap.size cs = W3 at *; have HF := yh (HFN.out W3 x [] cs he hm.ok hm.b); have HL := yh (vt_val.get hcs hm.q6); have HMID := yh hm; have HCS := yh (And.intro hcs hcell); simp only [List.length_nil] at hq; clear hs2 hb2 hk2 he hO hR2 hl2 hj hcs hcell h6 hm HO HM HFN)
       | (go_at_call 72; refine HF.out.mono ?_; rintro e W4 ⟨rfl, hB4⟩; have hm4 := HMID.out.below hws HOK.out HJ.out hB4; have HL4 := yh (vt_val.get HCS.out.1 hm4.q6); have HS4 := yh (vt_val.put HCS.out.1 HCS.out.2 hm4.q6 HCS.out.1); have hm5 := hm4.set6 hws HOK.out HJ.out; have HS5 := yh (Kbw.put (c := #[.int .i64 0]) rfl (by simp [Value.oneCell']) hm5.q7 rfl); have HM6 := yh (hm5.set7 hws HOK.out HJ.out); clear hm4 hm5 hB4 HF hq HL HST; rw [HOKB.out])
       | (go_at_call 105; refine (Kap _).mono ?_; rintro e W' ⟨rfl, rfl⟩)
       | ((with_reducible apply Kad); exact HST.out; exact rfl; exact rfl)
       | ((with_reducible apply Kad); exact HS4.out; exact rfl; exact rfl)
       | ((with_reducible apply Kad); exact HS5.out; exact rfl; exact rfl)
       | ((with_reducible apply Kal); exact HL4.out; exact rfl)
       | ((with_reducible apply Kdr); exact HL.out; exact rfl; exact rfl))
      exact leavesV_ok HM6.out.q6 HCS.out.1 HM6.out.q7 hres rfl rfl (HM6.out.good HRW.out)
    | false =>
      have HRW := yh (readW_no HD.out hok)
      have HOKB := yh hok
      clear hok
      go_wp2_with (first
       | (go_at_call 70; refine HO.out.mono ?_; rintro e W2 ⟨hs2, hb2, hk2, ⟨hn, _⟩ | ⟨x', s', cs, he, rfl, hO, hR2, hl2, hj⟩⟩; exact absurd hn HND.out; obtain ⟨rfl, rfl⟩ : x = x' ∧ [] = s' := (by have e := HD.out.symm.trans he; simpa using e); obtain ⟨hcs, hcell⟩ := HOS.out W2 x cs hO; obtain ⟨h6, hm, p', c', hq⟩ := HM.out W2 cs hs2 hb2 hk2 hO hR2 hj; have HST := yh (vt_val.put hcs hcell h6 rfl); generalize W2.setRow W.heap.size cs = W3 at *; have HF := yh (HFN.out W3 x [] cs he hm.ok hm.b); have HL := yh (vt_val.get hcs hm.q6); have HMID := yh hm; have HCS := yh (And.intro hcs hcell); simp only [List.length_nil] at hq; clear hs2 hb2 hk2 he hO hR2 hl2 hj hcs hcell h6 hm HO HM HFN)
       | (go_at_call 72; refine HF.out.mono ?_; rintro e W4 ⟨rfl, hB4⟩; have HM4 := yh (HMID.out.below hws HOK.out HJ.out hB4); clear hB4 HF hq HL HST; rw [HOKB.out])
       | (go_at_call 105; refine (Ka1 _).mono ?_; rintro e W' ⟨rfl, rfl⟩)
       | ((with_reducible apply Kad); exact HST.out; exact rfl; exact rfl)
       | ((with_reducible apply Kdr); exact HL.out; exact rfl; exact rfl))
      exact leavesV_bad HM4.out.q6 HCS.out.1 HM4.out.q7 (by omega) hres rfl rfl fun W5 hT => HM4.out.bad hws hT HRW.out (by first | exact HND.out | exact fun h => h)
   ·have HRW := yh (readW_left (ok := okB) HD.out hs)
    have hls : decide (((s.length : Int)) = 0) = false := by
     have : s.length ≠ 0 := fun h => hs (List.length_eq_zero_iff.1 h)
     simp only [decide_eq_false_iff_not]; omega
    have HS0 := yh hs
    clear hs
    go_wp2_with (first
     | (go_at_call 70; refine HO.out.mono ?_; rintro e W2 ⟨hs2, hb2, hk2, ⟨hn, _⟩ | ⟨x', s', cs, he, rfl, hO, hR2, hl2, hj⟩⟩; exact absurd hn HND.out; obtain ⟨rfl, rfl⟩ : x = x' ∧ s = s' := (by have e := HD.out.symm.trans he; simpa using e); obtain ⟨hcs, hcell⟩ := HOS.out W2 x cs hO; obtain ⟨h6, hm, p', c', hq⟩ := HM.out W2 cs hs2 hb2 hk2 hO hR2 hj; have HST := yh (vt_val.put hcs hcell h6 rfl); generalize W2.setRow W.heap.size cs = W3 at *; have HMID := yh hm; have HCS := yh (And.intro hcs hcell); clear hs2 hb2 hk2 he hO hR2 hl2 hj hcs hcell h6 hm HO HM HFN)
     | (go_at_call 105; refine (Ka1 _).mono ?_; rintro e W' ⟨rfl, rfl⟩)
     | ((with_reducible apply Kad); exact HST.out; exact rfl; exact rfl))
    exact leavesV_bad HMID.out.q6 HCS.out.1 HMID.out.q7 (by omega) hres rfl rfl fun W5 hT => HMID.out.bad hws hT HRW.out (by first | exact HND.out | exact fun h => h)
theorem leavesN_bad {fn : Func} {tmps : Array Value} {R : Ending → World → Prop} {W2 : World} {z : Array Value} {n : Int} {B6 B7 : Nat} (h6 : W2.heap[B6]? = some (.cells z 79 (0, 0))) (hz : z.size = 1) (h7 : W2.heap[B7]? = some (.cells #[.int .i64 n] 29 (0, 0))) (hne : B6 ≠ B7)
 (hres : fn.results = #[.cell 6 79, .cell 7 29]) (t6 : tmps.getD 6 undef = .pointer (some ⟨B6, 0, none⟩)) (t7 : tmps.getD 7 undef = .pointer (some ⟨B7, 0, none⟩))
 (hR : ∀ W3, Touch (fun x => x = B6 ∨ x = B7) W2 W3 → R (.returned (.tuple #[mk1 #[.int .u64 0], .int .i64 290])) W3) :
 Leaves Tryz.prog fn tmps R [{ target := .fn (.func 139) #[.pointer (some ⟨B6, 0, none⟩), .pointer (some ⟨B7, 0, none⟩)], args := #[] }] (.panicking [{ v := badV, recovered := false }]) W2 := by
 refine leaves_cons (f := 139) (args := #[.pointer (some ⟨B6, 0, none⟩), .pointer (some ⟨B7, 0, none⟩)]) (by simp) (Ka6 Tryz.func139 rfl rfl _ _) ((caughtN h6 hz h7 hne).mono ?_)
 rintro e u' w' ⟨rfl, rfl, g1, g2, gT⟩
 exact ⟨_, Kbk hres _ _ ⟨B6, 0, none⟩ ⟨B7, 0, none⟩ (mk1 #[.int .u64 0]) (.int .i64 290) t6 t7 (vt_u64.get rfl g1) (Kbw.get rfl g2), hR _ gT⟩
theorem leavesN_ok {fn : Func} {tmps : Array Value} {R : Ending → World → Prop} {W2 : World} {z : Array Value} {B6 B7 : Nat} (h6 : W2.heap[B6]? = some (.cells z 79 (0, 0))) (hz : z.size = 1) (h7 : W2.heap[B7]? = some (.cells #[.int .i64 0] 29 (0, 0)))
 (hres : fn.results = #[.cell 6 79, .cell 7 29]) (t6 : tmps.getD 6 undef = .pointer (some ⟨B6, 0, none⟩)) (t7 : tmps.getD 7 undef = .pointer (some ⟨B7, 0, none⟩))
 (hR : R (.returned (.tuple #[mk1 z, .int .i64 0])) W2) :
 Leaves Tryz.prog fn tmps R [{ target := .fn (.func 139) #[.pointer (some ⟨B6, 0, none⟩), .pointer (some ⟨B7, 0, none⟩)], args := #[] }] .returning W2 := by
 refine leaves_cons (f := 139) (args := #[.pointer (some ⟨B6, 0, none⟩), .pointer (some ⟨B7, 0, none⟩)]) (by simp) (Ka6 Tryz.func139 rfl rfl _ _) ((idleN _ _ _).mono ?_)
 rintro e u' w' ⟨rfl, rfl, rfl⟩
 exact ⟨_, Kbk hres _ _ ⟨B6, 0, none⟩ ⟨B7, 0, none⟩ (mk1 z) (.int .i64 0) t6 t7 (vt_u64.get hz h6) (Kbw.get rfl h7), hR⟩
theorem readN_any {α : Type} (d : Dec α) (okB : α → Bool) {w W : World} {p : Option Addr} {c : Nat} {bs : List UInt8} {a1 a2 : Option Addr} (hb : Below w.heap.size w W) (hrd : RdB w (.slice p bs.length c) bs) (hlb : bs.length ≤ 1000000) (X : Nat → Prop) (hX : ∀ b, X b → b < W.heap.size)
 (Jn : World → Prop) (hJn : ∀ W1 W2 : World, Jn W1 → (∀ b, b < W.heap.size → W2.heap[b]? = W1.heap[b]?) → Jn W2)
 (OK : World → α → Array Value → Prop) (hOKs : ∀ W1 x cs, OK W1 x cs → cs.size = 1 ∧ ∀ u ∈ cs.toList, u.oneCell' = true)
 (hOKk : ∀ (W1 W2 : World) x cs, OK W1 x cs → (∀ b, W.heap.size + 3 ≤ b → b < W1.heap.size → W2.heap[b]? = W1.heap[b]?) → OK W2 x cs)
 (one : ∀ W1 : World, W1.heap.size = W.heap.size + 3 → RSt 141 w W1 (W.heap.size + 2) bs → (∀ b, b < W.heap.size → W1.heap[b]? = W.heap[b]?) → Calls Tryz.prog 93 #[.pointer (some ⟨W.heap.size + 2, 0, none⟩), .pointer a1, .pointer a2] W1 fun e W2 =>
   W1.heap.size ≤ W2.heap.size ∧ Below w.heap.size w W2 ∧ (∀ b, b < W1.heap.size → b ≠ W.heap.size + 2 → ¬ X b → W2.heap[b]? = W1.heap[b]?) ∧ ((d bs = none ∧ e = given ∧ ∀ b, X b → W2.heap[b]? = W1.heap[b]?) ∨ ∃ x s cs, d bs = some (x, s) ∧ e = .returned (mk1 cs) ∧ OK W2 x cs ∧ RSt 141 w W2 (W.heap.size + 2) s ∧ s.length ≤ bs.length ∧ Jn W2))
 (fine : ∀ W1 x s cs, d bs = some (x, s) → OK W1 x cs → Below w.heap.size w W1 → Calls Tryz.prog 94 #[mk1 cs] W1 fun e W2 => e = .returned (.bool (okB x)) ∧ Below W1.heap.size W1 W2) :
 Calls Tryz.prog 92 #[.slice p bs.length c, .func (.func 93) #[] #[.pointer a1, .pointer a2], .func (.func 94) #[] #[]] W (ReadPost w W X mk1 #[.int .u64 0] OK Jn (d bs = none) (readW d okB bs)) := by
 have zl : (bs.length : Int) ≤ 1000000 := by omega
 have hws := hb.size
 have hb1 : Below W.heap.size W (((W.alloc (.cells #[.int .u64 0] 79)).alloc (.cells #[.int .i64 0] 29)).alloc (.cells #[.slice p bs.length c] 141)) := ((Kac _).alloc (by simp) _).alloc (by simp; omega) _
 have p6 : (((W.alloc (.cells #[.int .u64 0] 79)).alloc (.cells #[.int .i64 0] 29)).alloc (.cells #[.slice p bs.length c] 141)).heap[W.heap.size]? = some (.cells #[.int .u64 0] 79 (0, 0)) := by
  simp only [Kaf, World.size_alloc]; rw [if_neg (by omega), if_neg (by omega), if_pos trivial]
 have p7 : (((W.alloc (.cells #[.int .u64 0] 79)).alloc (.cells #[.int .i64 0] 29)).alloc (.cells #[.slice p bs.length c] 141)).heap[W.heap.size + 1]? = some (.cells #[.int .i64 0] 29 (0, 0)) := by
  simp only [Kaf, World.size_alloc]; rw [if_neg (by omega), if_pos trivial]
 have p8 : (((W.alloc (.cells #[.int .u64 0] 79)).alloc (.cells #[.int .i64 0] 29)).alloc (.cells #[.slice p bs.length c] 141)).heap[W.heap.size + 2]? = some (.cells #[.slice p bs.length c] 141 (0, 0)) := by
  have e : W.heap.size + 2 = W.heap.size + 1 + 1 := rfl
  rw [e]; simp only [Kaf, World.size_alloc]; rw [if_pos trivial]
 have hsz : (((W.alloc (.cells #[.int .u64 0] 79)).alloc (.cells #[.int .i64 0] 29)).alloc (.cells #[.slice p bs.length c] 141)).heap.size = W.heap.size + 3 := by simp
 have hone := one _ hsz ⟨Kaa hb hb1, by omega, p, c, p8, hrd⟩ (fun b hbb => hb1.block b hbb)
 have HO := yh hone
 have HP := yh (And.intro hb1 (And.intro p6 (And.intro p7 hsz)))
 have HFN := yh fine
 have HOS := yh hOKs
 have HOK := yh hOKk
 have HJ := yh hJn
 have HB0 := yh hb
 clear hone hb1 p6 p7 p8 fine hOKs hOKk hJn one hrd hb
 have back : ∀ W2 W3 : World, (((W.alloc (.cells #[.int .u64 0] 79)).alloc (.cells #[.int .i64 0] 29)).alloc (.cells #[.slice p bs.length c] 141)).heap.size ≤ W2.heap.size → (∀ b, b < (((W.alloc (.cells #[.int .u64 0] 79)).alloc (.cells #[.int .i64 0] 29)).alloc (.cells #[.slice p bs.length c] 141)).heap.size → b ≠ W.heap.size + 2 → ¬ X b → W2.heap[b]? = (((W.alloc (.cells #[.int .u64 0] 79)).alloc (.cells #[.int .i64 0] 29)).alloc (.cells #[.slice p bs.length c] 141)).heap[b]?) →
  W2.heap.size ≤ W3.heap.size → (∀ b, b < W2.heap.size → b ≠ W.heap.size → b ≠ W.heap.size + 1 → W3.heap[b]? = W2.heap[b]?) → W.heap.size ≤ W3.heap.size ∧ ∀ b, b < W.heap.size → ¬ X b → W3.heap[b]? = W.heap[b]? := by
  intro W2 W3 h1 h2 h3 h4
  have hs := HP.out.2.2.2
  exact ⟨by omega, fun b hb1 hbx => (h4 b (by omega) (by omega) (by omega)).trans ((h2 b (by omega) (by omega) hbx).trans (HP.out.1.block b hb1))⟩
 have HBK := yh back
 clear back
 refine calls_of_wp_defers Tryz.func92 rfl ?_
 simp only [Tryz.ntmps92, List.size_toArray, List.length_cons, List.length_nil, Nat.reduceAdd, Nat.reduceSub, Array.replicate_succ, Array.replicate_zero, List.push_toArray, List.append_toArray, List.nil_append, List.cons_append]
 have hres : Tryz.f92.results = #[.cell 6 79, .cell 7 29] := rfl
 cases hd : d bs with
 | none =>
   have HRW := yh (readW_none (ok := okB) hd)
   have HD := yh hd
   clear hd
   go_wp2_with (go_at_call 93; refine HO.out.mono ?_; rintro e W2 ⟨hs2, hb2, hk2, ⟨_, rfl, hx2⟩ | ⟨x, s, cs, he, _⟩⟩; rotate_left; exact absurd he (by rw [HD.out]; simp); have H2 := yh (And.intro hs2 (And.intro hb2 (And.intro hk2 hx2))); clear hs2 hb2 hk2 hx2)
   obtain ⟨hs2, hb2, hk2, hx2⟩ := H2.out
   obtain ⟨hb1, p6, p7, hsz⟩ := HP.out
   have hs3 : W.heap.size + 3 ≤ W2.heap.size := by omega
   refine leavesN_bad (n := 0) ((hk2 _ (by omega) (by omega) (fun h => by have := hX _ h; omega)).trans p6) rfl ((hk2 _ (by omega) (by omega) (fun h => by have := hX _ h; omega)).trans p7) (by omega) hres rfl rfl fun W3 hT => ?_
   obtain ⟨g1, g2⟩ := HBK.out W2 W3 hs2 hk2 hT.size (fun b hb h6 h7 => hT.block b hb (fun h => h.elim h6 h7))
   refine ⟨hT.below hb2 (fun b hb he => by omega) (by omega), g1, g2, ?_⟩
   rw [HRW.out]
   exact ⟨rfl, fun _ b hb => (hT.block b (by have := hX b hb; omega) (by have := hX b hb; omega)).trans ((hx2 b hb).trans (hb1.block b (hX b hb)))⟩
 | some pr =>
   obtain ⟨x, s⟩ := pr
   have HD := yh hd
   clear hd
   have hND : ¬ (d bs = none) := by rw [HD.out]; simp
   have HND := yh hND
   clear hND
   have mid : ∀ W2 cs, (((W.alloc (.cells #[.int .u64 0] 79)).alloc (.cells #[.int .i64 0] 29)).alloc (.cells #[.slice p bs.length c] 141)).heap.size ≤ W2.heap.size → Below w.heap.size w W2 → (∀ b, b < (((W.alloc (.cells #[.int .u64 0] 79)).alloc (.cells #[.int .i64 0] 29)).alloc (.cells #[.slice p bs.length c] 141)).heap.size → b ≠ W.heap.size + 2 → ¬ X b → W2.heap[b]? = (((W.alloc (.cells #[.int .u64 0] 79)).alloc (.cells #[.int .i64 0] 29)).alloc (.cells #[.slice p bs.length c] 141)).heap[b]?) →
    OK W2 x cs → RSt 141 w W2 (W.heap.size + 2) s → Jn W2 → W2.heap[W.heap.size]? = some (.cells #[.int .u64 0] 79 (0, 0)) ∧ RdMid 79 w W X OK Jn x cs (W2.setRow W.heap.size cs) ∧ ∃ p' c', (W2.setRow W.heap.size cs).cell? ⟨W.heap.size + 2, 0, none⟩ = some (.slice p' s.length c') := by
    intro W2 cs hs2 hb2 hk2 hO hR hj
    obtain ⟨hb1, p6, p7, hsz⟩ := HP.out
    have h6 := (hk2 W.heap.size (by omega) (by omega) (fun h => by have := hX _ h; omega)).trans p6
    obtain ⟨p', c', hq, _⟩ := hR.box
    exact ⟨h6, RdMid.first hws hX HOK.out HJ.out (by omega) hb2 (fun b hb hx => (hk2 b (by omega) (by omega) hx).trans (hb1.block b hb)) h6 ((hk2 (W.heap.size + 1) (by omega) (by omega) (fun h => by have := hX _ h; omega)).trans p7) hO hj,
     p', c', Kab (o := 0) ((setRow_other W2 W.heap.size (W.heap.size + 2) cs (by omega)).trans hq) rfl⟩
   have HM := yh mid
   clear mid HP
   by_cases hs : s = []
   ·subst hs
    cases hok : okB x with
    | true =>
      have HRW := yh (readW_yes HD.out hok)
      have HOKB := yh hok
      clear hok
      go_wp2_with (first
       | (go_at_call 93; refine HO.out.mono ?_; rintro e W2 ⟨hs2, hb2, hk2, ⟨hn, _⟩ | ⟨x', s', cs, he, rfl, hO, hR2, hl2, hj⟩⟩; exact absurd hn HND.out; obtain ⟨rfl, rfl⟩ : x = x' ∧ [] = s' := (by have e := HD.out.symm.trans he; simpa using e); obtain ⟨hcs, hcell⟩ := HOS.out W2 x cs hO; obtain ⟨h6, hm, p', c', hq⟩ := HM.out W2 cs hs2 hb2 hk2 hO hR2 hj; have HST := yh (vt_u64.put hcs hcell h6 rfl); generalize W2.setRow W.heap.size cs = W3 at *; have HF := yh (HFN.out W3 x [] cs he hm.ok hm.b); have HL := yh (vt_u64.get hcs hm.q6); have HMID := yh hm; have HCS := yh (And.intro hcs hcell); simp only [List.length_nil] at hq; clear hs2 hb2 hk2 he hO hR2 hl2 hj hcs hcell h6 hm HO HM HFN)
       | (go_at_call 94; refine HF.out.mono ?_; rintro e W4 ⟨rfl, hB4⟩; have hm4 := HMID.out.below hws HOK.out HJ.out hB4; have HL4 := yh (vt_u64.get HCS.out.1 hm4.q6); have HS4 := yh (vt_u64.put HCS.out.1 HCS.out.2 hm4.q6 HCS.out.1); have hm5 := hm4.set6 hws HOK.out HJ.out; have HS5 := yh (Kbw.put (c := #[.int .i64 0]) rfl (by simp [Value.oneCell']) hm5.q7 rfl); have HM6 := yh (hm5.set7 hws HOK.out HJ.out); clear hm4 hm5 hB4 HF hq HL HST; rw [HOKB.out])
       | (go_at_call 105; refine (Kap _).mono ?_; rintro e W' ⟨rfl, rfl⟩)
       | ((with_reducible apply Kad); exact HST.out; exact rfl; exact rfl)
       | ((with_reducible apply Kad); exact HS4.out; exact rfl; exact rfl)
       | ((with_reducible apply Kad); exact HS5.out; exact rfl; exact rfl)
       | ((with_reducible apply Kal); exact HL4.out; exact rfl)
       | ((with_reducible apply Kdr); exact HL.out; exact rfl; exact rfl))
      exact leavesN_ok HM6.out.q6 HCS.out.1 HM6.out.q7 hres rfl rfl (HM6.out.good HRW.out)
    | false =>
      have HRW := yh (readW_no HD.out hok)
      have HOKB := yh hok
      clear hok
      go_wp2_with (first
       | (go_at_call 93; refine HO.out.mono ?_; rintro e W2 ⟨hs2, hb2, hk2, ⟨hn, _⟩ | ⟨x', s', cs, he, rfl, hO, hR2, hl2, hj⟩⟩; exact absurd hn HND.out; obtain ⟨rfl, rfl⟩ : x = x' ∧ [] = s' := (by have e := HD.out.symm.trans he; simpa using e); obtain ⟨hcs, hcell⟩ := HOS.out W2 x cs hO; obtain ⟨h6, hm, p', c', hq⟩ := HM.out W2 cs hs2 hb2 hk2 hO hR2 hj; have HST := yh (vt_u64.put hcs hcell h6 rfl); generalize W2.setRow W.heap.size cs = W3 at *; have HF := yh (HFN.out W3 x [] cs he hm.ok hm.b); have HL := yh (vt_u64.get hcs hm.q6); have HMID := yh hm; have HCS := yh (And.intro hcs hcell); simp only [List.length_nil] at hq; clear hs2 hb2 hk2 he hO hR2 hl2 hj hcs hcell h6 hm HO HM HFN)
       | (go_at_call 94; refine HF.out.mono ?_; rintro e W4 ⟨rfl, hB4⟩; have HM4 := yh (HMID.out.below hws HOK.out HJ.out hB4); clear hB4 HF hq HL HST; rw [HOKB.out])
       | (go_at_call 105; refine (Ka1 _).mono ?_; rintro e W' ⟨rfl, rfl⟩)
       | ((with_reducible apply Kad); exact HST.out; exact rfl; exact rfl)
       | ((with_reducible apply Kdr); exact HL.out; exact rfl; exact rfl))
      exact leavesN_bad HM4.out.q6 HCS.out.1 HM4.out.q7 (by omega) hres rfl rfl fun W5 hT => HM4.out.bad hws hT HRW.out (by first | exact HND.out | exact fun h => h)
   ·have HRW := yh (readW_left (ok := okB) HD.out hs)
    have hls : decide (((s.length : Int)) = 0) = false := by
     have : s.length ≠ 0 := fun h => hs (List.length_eq_zero_iff.1 h)
     simp only [decide_eq_false_iff_not]; omega
    have HS0 := yh hs
    clear hs
    go_wp2_with (first
     | (go_at_call 93; refine HO.out.mono ?_; rintro e W2 ⟨hs2, hb2, hk2, ⟨hn, _⟩ | ⟨x', s', cs, he, rfl, hO, hR2, hl2, hj⟩⟩; exact absurd hn HND.out; obtain ⟨rfl, rfl⟩ : x = x' ∧ s = s' := (by have e := HD.out.symm.trans he; simpa using e); obtain ⟨hcs, hcell⟩ := HOS.out W2 x cs hO; obtain ⟨h6, hm, p', c', hq⟩ := HM.out W2 cs hs2 hb2 hk2 hO hR2 hj; have HST := yh (vt_u64.put hcs hcell h6 rfl); generalize W2.setRow W.heap.size cs = W3 at *; have HMID := yh hm; have HCS := yh (And.intro hcs hcell); clear hs2 hb2 hk2 he hO hR2 hl2 hj hcs hcell h6 hm HO HM HFN)
     | (go_at_call 105; refine (Ka1 _).mono ?_; rintro e W' ⟨rfl, rfl⟩)
     | ((with_reducible apply Kad); exact HST.out; exact rfl; exact rfl))
    exact leavesN_bad HMID.out.q6 HCS.out.1 HMID.out.q7 (by omega) hres rfl rfl fun W5 hT => HMID.out.bad hws hT HRW.out (by first | exact HND.out | exact fun h => h)
theorem leavesC_bad {fn : Func} {tmps : Array Value} {R : Ending → World → Prop} {W2 : World} {z : Array Value} {n : Int} {B6 B7 : Nat} (h6 : W2.heap[B6]? = some (.cells z 58 (0, 0))) (hz : z.size = 1) (h7 : W2.heap[B7]? = some (.cells #[.int .i64 n] 29 (0, 0))) (hne : B6 ≠ B7)
 (hres : fn.results = #[.cell 6 58, .cell 7 29]) (t6 : tmps.getD 6 undef = .pointer (some ⟨B6, 0, none⟩)) (t7 : tmps.getD 7 undef = .pointer (some ⟨B7, 0, none⟩))
 (hR : ∀ W3, Touch (fun x => x = B6 ∨ x = B7) W2 W3 → R (.returned (.tuple #[mk1 #[.slice none 0 0], .int .i64 290])) W3) :
 Leaves Tryz.prog fn tmps R [{ target := .fn (.func 129) #[.pointer (some ⟨B6, 0, none⟩), .pointer (some ⟨B7, 0, none⟩)], args := #[] }] (.panicking [{ v := badV, recovered := false }]) W2 := by
 refine leaves_cons (f := 129) (args := #[.pointer (some ⟨B6, 0, none⟩), .pointer (some ⟨B7, 0, none⟩)]) (by simp) (Ka6 Tryz.func129 rfl rfl _ _) ((caughtC h6 hz h7 hne).mono ?_)
 rintro e u' w' ⟨rfl, rfl, g1, g2, gT⟩
 exact ⟨_, Kbk hres _ _ ⟨B6, 0, none⟩ ⟨B7, 0, none⟩ (mk1 #[.slice none 0 0]) (.int .i64 290) t6 t7 (Kb5.get rfl g1) (Kbw.get rfl g2), hR _ gT⟩
theorem leavesC_ok {fn : Func} {tmps : Array Value} {R : Ending → World → Prop} {W2 : World} {z : Array Value} {B6 B7 : Nat} (h6 : W2.heap[B6]? = some (.cells z 58 (0, 0))) (hz : z.size = 1) (h7 : W2.heap[B7]? = some (.cells #[.int .i64 0] 29 (0, 0)))
 (hres : fn.results = #[.cell 6 58, .cell 7 29]) (t6 : tmps.getD 6 undef = .pointer (some ⟨B6, 0, none⟩)) (t7 : tmps.getD 7 undef = .pointer (some ⟨B7, 0, none⟩))
 (hR : R (.returned (.tuple #[mk1 z, .int .i64 0])) W2) :
 Leaves Tryz.prog fn tmps R [{ target := .fn (.func 129) #[.pointer (some ⟨B6, 0, none⟩), .pointer (some ⟨B7, 0, none⟩)], args := #[] }] .returning W2 := by
 refine leaves_cons (f := 129) (args := #[.pointer (some ⟨B6, 0, none⟩), .pointer (some ⟨B7, 0, none⟩)]) (by simp) (Ka6 Tryz.func129 rfl rfl _ _) ((idleC _ _ _).mono ?_)
 rintro e u' w' ⟨rfl, rfl, rfl⟩
 exact ⟨_, Kbk hres _ _ ⟨B6, 0, none⟩ ⟨B7, 0, none⟩ (mk1 z) (.int .i64 0) t6 t7 (Kb5.get hz h6) (Kbw.get rfl h7), hR⟩
theorem readC_any {α : Type} (d : Dec α) (okB : α → Bool) {w W : World} {p : Option Addr} {c : Nat} {bs : List UInt8} (hb : Below w.heap.size w W) (hrd : RdB w (.slice p bs.length c) bs) (hlb : bs.length ≤ 1000000) (X : Nat → Prop) (hX : ∀ b, X b → b < W.heap.size)
 (Jn : World → Prop) (hJn : ∀ W1 W2 : World, Jn W1 → (∀ b, b < W.heap.size → W2.heap[b]? = W1.heap[b]?) → Jn W2)
 (OK : World → α → Array Value → Prop) (hOKs : ∀ W1 x cs, OK W1 x cs → cs.size = 1 ∧ ∀ u ∈ cs.toList, u.oneCell' = true)
 (hOKk : ∀ (W1 W2 : World) x cs, OK W1 x cs → (∀ b, W.heap.size + 3 ≤ b → b < W1.heap.size → W2.heap[b]? = W1.heap[b]?) → OK W2 x cs)
 (one : ∀ W1 : World, W1.heap.size = W.heap.size + 3 → RSt 141 w W1 (W.heap.size + 2) bs → (∀ b, b < W.heap.size → W1.heap[b]? = W.heap[b]?) → Calls Tryz.prog 80 #[.pointer (some ⟨W.heap.size + 2, 0, none⟩)] W1 fun e W2 =>
   W1.heap.size ≤ W2.heap.size ∧ Below w.heap.size w W2 ∧ (∀ b, b < W1.heap.size → b ≠ W.heap.size + 2 → ¬ X b → W2.heap[b]? = W1.heap[b]?) ∧ ((d bs = none ∧ e = given ∧ ∀ b, X b → W2.heap[b]? = W1.heap[b]?) ∨ ∃ x s cs, d bs = some (x, s) ∧ e = .returned (mk1 cs) ∧ OK W2 x cs ∧ RSt 141 w W2 (W.heap.size + 2) s ∧ s.length ≤ bs.length ∧ Jn W2))
 (fine : ∀ W1 x s cs, d bs = some (x, s) → OK W1 x cs → Below w.heap.size w W1 → Calls Tryz.prog 83 #[mk1 cs] W1 fun e W2 => e = .returned (.bool (okB x)) ∧ Below W1.heap.size W1 W2) :
 Calls Tryz.prog 79 #[.slice p bs.length c, .func (.func 80) #[] #[], .func (.func 83) #[] #[]] W (ReadPost w W X mk1 #[.slice none 0 0] OK Jn (d bs = none) (readW d okB bs)) := by
 have zl : (bs.length : Int) ≤ 1000000 := by omega
 have hws := hb.size
 have hb1 : Below W.heap.size W (((W.alloc (.cells #[.slice none 0 0] 58)).alloc (.cells #[.int .i64 0] 29)).alloc (.cells #[.slice p bs.length c] 141)) := ((Kac _).alloc (by simp) _).alloc (by simp; omega) _
 have p6 : (((W.alloc (.cells #[.slice none 0 0] 58)).alloc (.cells #[.int .i64 0] 29)).alloc (.cells #[.slice p bs.length c] 141)).heap[W.heap.size]? = some (.cells #[.slice none 0 0] 58 (0, 0)) := by
  simp only [Kaf, World.size_alloc]; rw [if_neg (by omega), if_neg (by omega), if_pos trivial]
 have p7 : (((W.alloc (.cells #[.slice none 0 0] 58)).alloc (.cells #[.int .i64 0] 29)).alloc (.cells #[.slice p bs.length c] 141)).heap[W.heap.size + 1]? = some (.cells #[.int .i64 0] 29 (0, 0)) := by
  simp only [Kaf, World.size_alloc]; rw [if_neg (by omega), if_pos trivial]
 have p8 : (((W.alloc (.cells #[.slice none 0 0] 58)).alloc (.cells #[.int .i64 0] 29)).alloc (.cells #[.slice p bs.length c] 141)).heap[W.heap.size + 2]? = some (.cells #[.slice p bs.length c] 141 (0, 0)) := by
  have e : W.heap.size + 2 = W.heap.size + 1 + 1 := rfl
  rw [e]; simp only [Kaf, World.size_alloc]; rw [if_pos trivial]
 have hsz : (((W.alloc (.cells #[.slice none 0 0] 58)).alloc (.cells #[.int .i64 0] 29)).alloc (.cells #[.slice p bs.length c] 141)).heap.size = W.heap.size + 3 := by simp
 have hone := one _ hsz ⟨Kaa hb hb1, by omega, p, c, p8, hrd⟩ (fun b hbb => hb1.block b hbb)
 have HO := yh hone
 have HP := yh (And.intro hb1 (And.intro p6 (And.intro p7 hsz)))
 have HFN := yh fine
 have HOS := yh hOKs
 have HOK := yh hOKk
 have HJ := yh hJn
 have HB0 := yh hb
 clear hone hb1 p6 p7 p8 fine hOKs hOKk hJn one hrd hb
 have back : ∀ W2 W3 : World, (((W.alloc (.cells #[.slice none 0 0] 58)).alloc (.cells #[.int .i64 0] 29)).alloc (.cells #[.slice p bs.length c] 141)).heap.size ≤ W2.heap.size → (∀ b, b < (((W.alloc (.cells #[.slice none 0 0] 58)).alloc (.cells #[.int .i64 0] 29)).alloc (.cells #[.slice p bs.length c] 141)).heap.size → b ≠ W.heap.size + 2 → ¬ X b → W2.heap[b]? = (((W.alloc (.cells #[.slice none 0 0] 58)).alloc (.cells #[.int .i64 0] 29)).alloc (.cells #[.slice p bs.length c] 141)).heap[b]?) →
  W2.heap.size ≤ W3.heap.size → (∀ b, b < W2.heap.size → b ≠ W.heap.size → b ≠ W.heap.size + 1 → W3.heap[b]? = W2.heap[b]?) → W.heap.size ≤ W3.heap.size ∧ ∀ b, b < W.heap.size → ¬ X b → W3.heap[b]? = W.heap[b]? := by
  intro W2 W3 h1 h2 h3 h4
  have hs := HP.out.2.2.2
  exact ⟨by omega, fun b hb1 hbx => (h4 b (by omega) (by omega) (by omega)).trans ((h2 b (by omega) (by omega) hbx).trans (HP.out.1.block b hb1))⟩
 have HBK := yh back
 clear back
 refine calls_of_wp_defers Tryz.func79 rfl ?_
 simp only [Tryz.ntmps79, List.size_toArray, List.length_cons, List.length_nil, Nat.reduceAdd, Nat.reduceSub, Array.replicate_succ, Array.replicate_zero, List.push_toArray, List.append_toArray, List.nil_append, List.cons_append]
 have hres : Tryz.f79.results = #[.cell 6 58, .cell 7 29] := rfl
 cases hd : d bs with
 | none =>
   have HRW := yh (readW_none (ok := okB) hd)
   have HD := yh hd
   clear hd
   go_wp2_with (go_at_call 80; refine HO.out.mono ?_; rintro e W2 ⟨hs2, hb2, hk2, ⟨_, rfl, hx2⟩ | ⟨x, s, cs, he, _⟩⟩; rotate_left; exact absurd he (by rw [HD.out]; simp); have H2 := yh (And.intro hs2 (And.intro hb2 (And.intro hk2 hx2))); clear hs2 hb2 hk2 hx2)
   obtain ⟨hs2, hb2, hk2, hx2⟩ := H2.out
   obtain ⟨hb1, p6, p7, hsz⟩ := HP.out
   have hs3 : W.heap.size + 3 ≤ W2.heap.size := by omega
   refine leavesC_bad (n := 0) ((hk2 _ (by omega) (by omega) (fun h => by have := hX _ h; omega)).trans p6) rfl ((hk2 _ (by omega) (by omega) (fun h => by have := hX _ h; omega)).trans p7) (by omega) hres rfl rfl fun W3 hT => ?_
   obtain ⟨g1, g2⟩ := HBK.out W2 W3 hs2 hk2 hT.size (fun b hb h6 h7 => hT.block b hb (fun h => h.elim h6 h7))
   refine ⟨hT.below hb2 (fun b hb he => by omega) (by omega), g1, g2, ?_⟩
   rw [HRW.out]
   exact ⟨rfl, fun _ b hb => (hT.block b (by have := hX b hb; omega) (by have := hX b hb; omega)).trans ((hx2 b hb).trans (hb1.block b (hX b hb)))⟩
 | some pr =>
   obtain ⟨x, s⟩ := pr
   have HD := yh hd
   clear hd
   have hND : ¬ (d bs = none) := by rw [HD.out]; simp
   have HND := yh hND
   clear hND
   have mid : ∀ W2 cs, (((W.alloc (.cells #[.slice none 0 0] 58)).alloc (.cells #[.int .i64 0] 29)).alloc (.cells #[.slice p bs.length c] 141)).heap.size ≤ W2.heap.size → Below w.heap.size w W2 → (∀ b, b < (((W.alloc (.cells #[.slice none 0 0] 58)).alloc (.cells #[.int .i64 0] 29)).alloc (.cells #[.slice p bs.length c] 141)).heap.size → b ≠ W.heap.size + 2 → ¬ X b → W2.heap[b]? = (((W.alloc (.cells #[.slice none 0 0] 58)).alloc (.cells #[.int .i64 0] 29)).alloc (.cells #[.slice p bs.length c] 141)).heap[b]?) →
    OK W2 x cs → RSt 141 w W2 (W.heap.size + 2) s → Jn W2 → W2.heap[W.heap.size]? = some (.cells #[.slice none 0 0] 58 (0, 0)) ∧ RdMid 58 w W X OK Jn x cs (W2.setRow W.heap.size cs) ∧ ∃ p' c', (W2.setRow W.heap.size cs).cell? ⟨W.heap.size + 2, 0, none⟩ = some (.slice p' s.length c') := by
    intro W2 cs hs2 hb2 hk2 hO hR hj
    obtain ⟨hb1, p6, p7, hsz⟩ := HP.out
    have h6 := (hk2 W.heap.size (by omega) (by omega) (fun h => by have := hX _ h; omega)).trans p6
    obtain ⟨p', c', hq, _⟩ := hR.box
    exact ⟨h6, RdMid.first hws hX HOK.out HJ.out (by omega) hb2 (fun b hb hx => (hk2 b (by omega) (by omega) hx).trans (hb1.block b hb)) h6 ((hk2 (W.heap.size + 1) (by omega) (by omega) (fun h => by have := hX _ h; omega)).trans p7) hO hj,
     p', c', Kab (o := 0) ((setRow_other W2 W.heap.size (W.heap.size + 2) cs (by omega)).trans hq) rfl⟩
   have HM := yh mid
   clear mid HP
   by_cases hs : s = []
   ·subst hs
    cases hok : okB x with
    | true =>
      have HRW := yh (readW_yes HD.out hok)
      have HOKB := yh hok
      clear hok
      go_wp2_with (first
       | (go_at_call 80; refine HO.out.mono ?_; rintro e W2 ⟨hs2, hb2, hk2, ⟨hn, _⟩ | ⟨x', s', cs, he, rfl, hO, hR2, hl2, hj⟩⟩; exact absurd hn HND.out; obtain ⟨rfl, rfl⟩ : x = x' ∧ [] = s' := (by have e := HD.out.symm.trans he; simpa using e); obtain ⟨hcs, hcell⟩ := HOS.out W2 x cs hO; obtain ⟨h6, hm, p', c', hq⟩ := HM.out W2 cs hs2 hb2 hk2 hO hR2 hj; have HST := yh (Kb5.put hcs hcell h6 rfl); generalize W2.setRow W.heap.size cs = W3 at *; have HF := yh (HFN.out W3 x [] cs he hm.ok hm.b); have HL := yh (Kb5.get hcs hm.q6); have HMID := yh hm; have HCS := yh (And.intro hcs hcell); simp only [List.length_nil] at hq; clear hs2 hb2 hk2 he hO hR2 hl2 hj hcs hcell h6 hm HO HM HFN)
       | (go_at_call 83; refine HF.out.mono ?_; rintro e W4 ⟨rfl, hB4⟩; have hm4 := HMID.out.below hws HOK.out HJ.out hB4; have HL4 := yh (Kb5.get HCS.out.1 hm4.q6); have HS4 := yh (Kb5.put HCS.out.1 HCS.out.2 hm4.q6 HCS.out.1); have hm5 := hm4.set6 hws HOK.out HJ.out; have HS5 := yh (Kbw.put (c := #[.int .i64 0]) rfl (by simp [Value.oneCell']) hm5.q7 rfl); have HM6 := yh (hm5.set7 hws HOK.out HJ.out); clear hm4 hm5 hB4 HF hq HL HST; rw [HOKB.out])
       | (go_at_call 105; refine (Kap _).mono ?_; rintro e W' ⟨rfl, rfl⟩)
       | ((with_reducible apply Kad); exact HST.out; exact rfl; exact rfl)
       | ((with_reducible apply Kad); exact HS4.out; exact rfl; exact rfl)
       | ((with_reducible apply Kad); exact HS5.out; exact rfl; exact rfl)
       | ((with_reducible apply Kal); exact HL4.out; exact rfl)
       | ((with_reducible apply Kdr); exact HL.out; exact rfl; exact rfl))
      exact leavesC_ok HM6.out.q6 HCS.out.1 HM6.out.q7 hres rfl rfl (HM6.out.good HRW.out)
    | false =>
      have HRW := yh (readW_no HD.out hok)
      have HOKB := yh hok
      clear hok
      go_wp2_with (first
       | (go_at_call 80; refine HO.out.mono ?_; rintro e W2 ⟨hs2, hb2, hk2, ⟨hn, _⟩ | ⟨x', s', cs, he, rfl, hO, hR2, hl2, hj⟩⟩; exact absurd hn HND.out; obtain ⟨rfl, rfl⟩ : x = x' ∧ [] = s' := (by have e := HD.out.symm.trans he; simpa using e); obtain ⟨hcs, hcell⟩ := HOS.out W2 x cs hO; obtain ⟨h6, hm, p', c', hq⟩ := HM.out W2 cs hs2 hb2 hk2 hO hR2 hj; have HST := yh (Kb5.put hcs hcell h6 rfl); generalize W2.setRow W.heap.size cs = W3 at *; have HF := yh (HFN.out W3 x [] cs he hm.ok hm.b); have HL := yh (Kb5.get hcs hm.q6); have HMID := yh hm; have HCS := yh (And.intro hcs hcell); simp only [List.length_nil] at hq; clear hs2 hb2 hk2 he hO hR2 hl2 hj hcs hcell h6 hm HO HM HFN)
       | (go_at_call 83; refine HF.out.mono ?_; rintro e W4 ⟨rfl, hB4⟩; have HM4 := yh (HMID.out.below hws HOK.out HJ.out hB4); clear hB4 HF hq HL HST; rw [HOKB.out])
       | (go_at_call 105; refine (Ka1 _).mono ?_; rintro e W' ⟨rfl, rfl⟩)
       | ((with_reducible apply Kad); exact HST.out; exact rfl; exact rfl)
       | ((with_reducible apply Kdr); exact HL.out; exact rfl; exact rfl))
      exact leavesC_bad HM4.out.q6 HCS.out.1 HM4.out.q7 (by omega) hres rfl rfl fun W5 hT => HM4.out.bad hws hT HRW.out (by first | exact HND.out | exact fun h => h)
   ·have HRW := yh (readW_left (ok := okB) HD.out hs)
    have hls : decide (((s.length : Int)) = 0) = false := by
     have : s.length ≠ 0 := fun h => hs (List.length_eq_zero_iff.1 h)
     simp only [decide_eq_false_iff_not]; omega
    have HS0 := yh hs
    clear hs
    go_wp2_with (first
     | (go_at_call 80; refine HO.out.mono ?_; rintro e W2 ⟨hs2, hb2, hk2, ⟨hn, _⟩ | ⟨x', s', cs, he, rfl, hO, hR2, hl2, hj⟩⟩; exact absurd hn HND.out; obtain ⟨rfl, rfl⟩ : x = x' ∧ s = s' := (by have e := HD.out.symm.trans he; simpa using e); obtain ⟨hcs, hcell⟩ := HOS.out W2 x cs hO; obtain ⟨h6, hm, p', c', hq⟩ := HM.out W2 cs hs2 hb2 hk2 hO hR2 hj; have HST := yh (Kb5.put hcs hcell h6 rfl); generalize W2.setRow W.heap.size cs = W3 at *; have HMID := yh hm; have HCS := yh (And.intro hcs hcell); clear hs2 hb2 hk2 he hO hR2 hl2 hj hcs hcell h6 hm HO HM HFN)
     | (go_at_call 105; refine (Ka1 _).mono ?_; rintro e W' ⟨rfl, rfl⟩)
     | ((with_reducible apply Kad); exact HST.out; exact rfl; exact rfl))
    exact leavesC_bad HMID.out.q6 HCS.out.1 HMID.out.q7 (by omega) hres rfl rfl fun W5 hT => HMID.out.bad hws hT HRW.out (by first | exact HND.out | exact fun h => h)
theorem tot_of {α : Type} {d : Dec α} {e : α → List UInt8} {P : α → Prop} {f : Rs → α × Rs} {sz : α → Nat} {R : α → Prop} (h : RT d e P) (g : DF f e P) (s : DS f sz R) {b r : List UInt8} {x : α} (hd : d b = some (x, r)) : sz x + r.length ≤ b.length ∧ R x := by
 obtain ⟨h1, h2⟩ := h.sound _ _ _ hd
 have h3 := g x r h2
 rw [← h1] at h3
 have h4 := s.size (b, false) (by rw [h3])
 have h5 := s.rng (b, false)
 rw [h3] at h4 h5
 exact ⟨h4, h5⟩
def errR {α : Type} (o : Option α) : Int := match o with
 | some _ => 0
 | none => 290
theorem Kce {P : Program} {fn : Func} {p u : Tmp} {ty : TypeId} (h : fn.results = #[.cell p ty, .tmp u]) (tmps : Array Value) (w : World) (ad : Addr) (v : Value)
 (hp : tmps.getD p undef = .pointer (some ad)) (hl : (loadVar ty ad).run P w = .ok v w) : (results fn tmps).run P w = .ok (.tuple #[v, tmps.getD u undef]) w := by
 have hp' : tmps[p]?.getD undef = .pointer (some ad) := by simpa using hp
 simp [results, h, hp', asAddr, hl]
theorem one_of {α : Type} {d : Dec α} {w W1 W2 : World} {q : Nat} {bs : List UInt8} {n : Nat} {E : World → (Nat → Prop) → α → Array Value → Prop} {K : Nat} (hE : EL E K) (hn : W1.heap.size = n + 3) (hle : ∀ l' x s, d l' = some (x, s) → s.length ≤ l'.length) {e : Ending}
 (h : Reads w W1 q (d bs) (fun x v W' => ∃ cs, v = .agg cs ∧ E W' (fun b => W1.heap.size ≤ b) x cs) e W2) : W1.heap.size ≤ W2.heap.size ∧ Below w.heap.size w W2 ∧ (∀ b, b < W1.heap.size → b ≠ q → ¬ (fun _ => False : Nat → Prop) b → W2.heap[b]? = W1.heap[b]?) ∧
   ((d bs = none ∧ e = given ∧ ∀ b, (fun _ => False : Nat → Prop) b → W2.heap[b]? = W1.heap[b]?) ∨ ∃ x s cs, d bs = some (x, s) ∧ e = .returned (.agg cs) ∧ E W2 (fun b => n + 3 ≤ b) x cs ∧ RSt 141 w W2 q s ∧ s.length ≤ bs.length ∧ True) := by
 cases hd : d bs with
 | none =>
   rw [hd] at h
   obtain ⟨t, hb, rfl⟩ := h.none
   exact ⟨t.size, hb, fun b h1 h2 _ => t.keep b h1 h2, .inl ⟨rfl, rfl, fun b hb => hb.elim⟩⟩
 | some p =>
   obtain ⟨x, s⟩ := p
   rw [hd] at h
   obtain ⟨t, hb, v, rfl, ⟨cs, rfl, how⟩, hs⟩ := h.some
   exact ⟨t.size, hb, fun b h1 h2 _ => t.keep b h1 h2, .inr ⟨x, s, cs, rfl, rfl, hE.imp (fun b _ hb => by omega) how, hs, hle _ _ _ hd, trivial⟩⟩
def Got {α : Type} (E : World → (Nat → Prop) → α → Array Value → Prop) (z : α) (w : World) (o : Option α) (e : Ending) (W' : World) : Prop :=
 ∃ cs, e = .returned (.tuple #[.agg cs, .int .i64 (errR o)]) ∧ E W' (fun b => w.heap.size ≤ b) (o.getD z) cs ∧ Below w.heap.size w W'
theorem GrOwn.rd {w : World} {P : Nat → Prop} {g : GraphD} {x : Array Value} (h : GrOwn w P g x) (ht : totG g ≤ 900000) : GrRd w g x := by
 obtain ⟨vn, vr, rfl, h1, h2⟩ := h
 unfold totG at ht
 have k1 : g.nodes.length ≤ (g.nodes.map totN).sum := Kcx totN fun n _ => totN_pos n
 have k2 : g.rels.length ≤ (g.rels.map totR).sum := Kcx totR fun n _ => totR_pos n
 obtain ⟨pn, cn, rfl, e1⟩ := h1.rd Kbb (F := NRd) (by omega) fun v hv x hx => hx.rd (by have := Kb6 totN hv; omega)
 obtain ⟨pr, cr, rfl, e2⟩ := h2.rd Kcf (F := RRd) (by omega) fun v hv x hx => hx.rd (by have := Kb6 totR hv; omega)
 exact ⟨pn, cn, pr, cr, rfl, e1, e2⟩
def graphZ : GraphD := ⟨[], [], 0, 0⟩
theorem graphZ_own {W : World} {P : Nat → Prop} : GrOwn W P graphZ #[.slice none 0 0, .slice none 0 0, .int .i64 0, .int .i64 0] := ⟨_, _, rfl, GOwn.nil, GOwn.nil⟩
def val0 : V := .mk 0 false 0 [] [] []
theorem val0_own {W : World} {P : Nat → Prop} : VOwn W P val0 #[.int .i64 0, .bool false, .int .i64 0, .string ⟨#[]⟩, .slice none 0 0, .slice none 0 0] := Kd6 W P 0 false 0 []
theorem ef_graph : EF GrRd 4 := by
 refine ⟨fun h g => h.below g, fun h => ?_, fun h u hu => ?_⟩
 ·obtain ⟨pn, cn, pr, cr, rfl, _⟩ := h; rfl
 ·obtain ⟨pn, cn, pr, cr, rfl, _⟩ := h
  simp only [List.mem_cons, List.not_mem_nil, or_false] at hu
  rcases hu with rfl | rfl | rfl | rfl <;> rfl
theorem fineG_any {w : World} (hE : Env w) {g : GraphD} {x : Array Value} (h : GrRd w g x) (ht : totG g ≤ 900000) : Calls Tryz.prog 56 #[.agg x] w fun e w' => e = .returned (.bool (okG g)) ∧ Below w.heap.size w w' := by
 have hxs := ef_graph.size h
 have hb := Kac (w := w) (.cells x 25)
 have HL := yh (Kbt.get (P := Tryz.prog) hxs (heap_alloc_new w (.cells x 25)))
 have HC := yh (Kd2 (hE.b hb) (h.below hb) (by omega))
 have HB := yh hb
 clear hE hb h
 have hd : decide (errG (okG g) = 0) = okG g := by cases okG g <;> rfl
 generalize errG (okG g) = er at *
 generalize okG g = r at *
 go_enter Tryz.func56, Tryz.ntmps56
 go_wp2_with (first
  | ((with_reducible apply Kal); exact HL.out; exact rfl)
  | (go_at_call 13; refine HC.out.mono ?_; rintro e W1 ⟨rfl, hb⟩; have HB2 := yh (Kaa HB.out hb); clear hb))
 go_ret
 have e : (er == 0) = r := by rw [← hd]; rfl
 exact ⟨by show Ending.returned (.bool (er == 0)) = _; rw [e], HB2.out⟩
theorem readPub_G {w : World} (hE : Env w) {p : Option Addr} {c : Nat} {bs : List UInt8} (hrd : RdB w (.slice p bs.length c) bs) (hl : bs.length ≤ 900000) :
 Calls Tryz.prog 16 #[.slice p bs.length c] w (Got GrOwn graphZ w (readW rdGraph okG bs)) := by
 have hb := Kac (w := w) (.cells #[.slice none 0 0, .slice none 0 0, .int .i64 0, .int .i64 0] 25)
 have hbx := heap_alloc_new w (.cells #[.slice none 0 0, .slice none 0 0, .int .i64 0, .int .i64 0] 25)
 have hsz : (w.alloc (.cells #[.slice none 0 0, .slice none 0 0, .int .i64 0, .int .i64 0] 25)).heap.size = w.heap.size + 1 := by simp
 have hR := readG_any rdGraph okG hb hrd (by omega) (fun _ => False) (fun b h => h.elim) (fun _ => True) (fun _ _ _ _ => trivial)
  (fun W1 x cs => GrOwn W1 (fun b => (w.alloc (.cells #[.slice none 0 0, .slice none 0 0, .int .i64 0, .int .i64 0] 25)).heap.size + 3 ≤ b) x cs) (fun W1 x cs h => ⟨Kdn.size h, Kdn.ones h⟩) (fun W1 W2 x cs h hk => Kdn.keep (fun b hb hlt => hk b hb hlt) h)
  (fun W1 hs hst hk => (rgraph_any hst (by omega)).mono fun e W2 h => one_of Kdn hs (fun l' x s hd => rt_graph.le hd) h)
  (fun W1 x s cs hd how hbw => by
    have ht := (tot_of rt_graph df_graph ds_graph hd).1
    exact fineG_any (hE.b hbw) (how.rd (by omega)) (by omega))
 have HR := yh hR
 have HB := yh (And.intro hb (And.intro hbx hsz))
 clear hE hrd hb hbx hsz hR
 generalize readW rdGraph okG bs = res at *
 go_enter Tryz.func16, Tryz.ntmps16
 cases res with
 | none =>
   go_wp2_with (first
    | (go_at_call 49; refine HR.out.mono ?_; rintro e W2 ⟨hb2, hs2, hk2, rfl, _⟩
       (
        obtain ⟨hb, hbx, hsz⟩ := HB.out
        have hbx2 := (hk2 w.heap.size (by omega) (fun h => h)).trans hbx
        have Hst_graph := yh (Kbt.put (cs := #[.slice none 0 0, .slice none 0 0, .int .i64 0, .int .i64 0]) rfl (by simp [Value.oneCell']) hbx2 rfl)
        have HLD := yh (Kbt.get (P := Tryz.prog) (cs := #[.slice none 0 0, .slice none 0 0, .int .i64 0, .int .i64 0]) rfl (setRow_heap W2 w.heap.size _ #[.slice none 0 0, .slice none 0 0, .int .i64 0, .int .i64 0] _ _ hbx2))
        have HF := yh (Kch (B := w.heap.size) hb2 (Nat.le_refl _) #[.slice none 0 0, .slice none 0 0, .int .i64 0, .int .i64 0])
        clear hb hbx hsz hb2 hs2 hk2 hbx2 HR))
    | ((with_reducible apply Kad); exact Hst_graph.out; exact rfl; exact rfl))
   refine bodyPost_ret (Kce rfl _ _ ⟨w.heap.size, 0, none⟩ _ rfl HLD.out) rfl ?_
   exact ⟨#[.slice none 0 0, .slice none 0 0, .int .i64 0, .int .i64 0], rfl, graphZ_own, HF.out⟩
 | some x =>
   go_wp2_with (first
    | (go_at_call 49; refine HR.out.mono ?_; rintro e W2 ⟨hb2, hs2, hk2, cs, rfl, how, _⟩
       (
        obtain ⟨hb, hbx, hsz⟩ := HB.out
        have hbx2 := (hk2 w.heap.size (by omega) (fun h => h)).trans hbx
        have hcs := Kdn.size how
        have Hst_graph := yh (Kbt.put hcs (Kdn.ones how) hbx2 rfl)
        have HLD := yh (Kbt.get (P := Tryz.prog) hcs (setRow_heap W2 w.heap.size _ cs _ _ hbx2))
        have hown : GrOwn (W2.setRow w.heap.size cs) (fun b => w.heap.size ≤ b) x cs := Kdn.imp (fun b _ hb => by omega) (Kdn.keep (w' := W2.setRow w.heap.size cs) (fun b hb hlt => setRow_other W2 _ b _ (by omega)) how)
        have HF := yh (And.intro hown (Kch (B := w.heap.size) hb2 (Nat.le_refl _) cs))
        clear hb hbx hsz hb2 hs2 hk2 hbx2 HR how hcs hown))
    | ((with_reducible apply Kad); exact Hst_graph.out; exact rfl; exact rfl))
   refine bodyPost_ret (Kce rfl _ _ ⟨w.heap.size, 0, none⟩ _ rfl HLD.out) rfl ?_
   exact ⟨cs, rfl, HF.out.1, HF.out.2⟩
theorem fineV_any {w : World} (hE : Env w) {g : V} {x : Array Value} (h : VRd w g x) (ht : totV g ≤ 900000) : Calls Tryz.prog 72 #[.agg x] w fun e w' => e = .returned (.bool (okV g)) ∧ Below w.heap.size w w' := by
 have hxs := ef_val.size h
 have hb := Kac (w := w) (.cells x 48)
 have HL := yh (Kbo.get (P := Tryz.prog) hxs (heap_alloc_new w (.cells x 48)))
 have HC := yh (check_ok (hE.b hb) (h.below hb) (by omega))
 have HB := yh hb
 clear hE hb h
 have hd : decide (checkV Lib.validD g = 0) = okV g := by rfl
 generalize checkV Lib.validD g = er at *
 generalize okV g = r at *
 go_enter Tryz.func72, Tryz.ntmps72
 go_wp2_with (first
  | ((with_reducible apply Kal); exact HL.out; exact rfl)
  | (go_at_call 63; refine HC.out.mono ?_; rintro e W1 ⟨rfl, hb⟩; have HB2 := yh (Kaa HB.out hb); clear hb))
 go_ret
 have e : (er == 0) = r := by rw [← hd]; rfl
 exact ⟨by show Ending.returned (.bool (er == 0)) = _; rw [e], HB2.out⟩
theorem readPub_V {w : World} (hE : Env w) {p : Option Addr} {c : Nat} {bs : List UInt8} (hrd : RdB w (.slice p bs.length c) bs) (hl : bs.length ≤ 900000) :
 Calls Tryz.prog 23 #[.slice p bs.length c] w (Got VOwn val0 w (readW (rdVal 64) okV bs)) := by
 have hb := Kac (w := w) (.cells #[.int .i64 0, .bool false, .int .i64 0, .string ⟨#[]⟩, .slice none 0 0, .slice none 0 0] 48)
 have hbx := heap_alloc_new w (.cells #[.int .i64 0, .bool false, .int .i64 0, .string ⟨#[]⟩, .slice none 0 0, .slice none 0 0] 48)
 have hsz : (w.alloc (.cells #[.int .i64 0, .bool false, .int .i64 0, .string ⟨#[]⟩, .slice none 0 0, .slice none 0 0] 48)).heap.size = w.heap.size + 1 := by simp
 have hR := readV_any (rdVal 64) okV hb hrd (by omega) (fun _ => False) (fun b h => h.elim) (fun _ => True) (fun _ _ _ _ => trivial)
  (fun W1 x cs => VOwn W1 (fun b => (w.alloc (.cells #[.int .i64 0, .bool false, .int .i64 0, .string ⟨#[]⟩, .slice none 0 0, .slice none 0 0] 48)).heap.size + 3 ≤ b) x cs) (fun W1 x cs h => ⟨Kdj.size h, Kdj.ones h⟩) (fun W1 W2 x cs h hk => Kdj.keep (fun b hb hlt => hk b hb hlt) h)
  (fun W1 hs hst hk => (rvalue1_any hst (by omega)).mono fun e W2 h => one_of Kdj hs (fun l' x s hd => (rt_val 64).le hd) h)
  (fun W1 x s cs hd how hbw => by
    have ht := (tot_of (rt_val 64) (df_val 64) (ds_val 64) hd).1
    exact fineV_any (hE.b hbw) (how.rd (by omega)) (by omega))
 have HR := yh hR
 have HB := yh (And.intro hb (And.intro hbx hsz))
 clear hE hrd hb hbx hsz hR
 generalize readW (rdVal 64) okV bs = res at *
 go_enter Tryz.func23, Tryz.ntmps23
 cases res with
 | none =>
   go_wp2_with (first
    | (go_at_call 69; refine HR.out.mono ?_; rintro e W2 ⟨hb2, hs2, hk2, rfl, _⟩
       (
        obtain ⟨hb, hbx, hsz⟩ := HB.out
        have hbx2 := (hk2 w.heap.size (by omega) (fun h => h)).trans hbx
        have Hst_val := yh (Kbo.put (cs := #[.int .i64 0, .bool false, .int .i64 0, .string ⟨#[]⟩, .slice none 0 0, .slice none 0 0]) rfl (by simp [Value.oneCell']) hbx2 rfl)
        have HLD := yh (Kbo.get (P := Tryz.prog) (cs := #[.int .i64 0, .bool false, .int .i64 0, .string ⟨#[]⟩, .slice none 0 0, .slice none 0 0]) rfl (setRow_heap W2 w.heap.size _ #[.int .i64 0, .bool false, .int .i64 0, .string ⟨#[]⟩, .slice none 0 0, .slice none 0 0] _ _ hbx2))
        have HF := yh (Kch (B := w.heap.size) hb2 (Nat.le_refl _) #[.int .i64 0, .bool false, .int .i64 0, .string ⟨#[]⟩, .slice none 0 0, .slice none 0 0])
        clear hb hbx hsz hb2 hs2 hk2 hbx2 HR))
    | ((with_reducible apply Kad); exact Hst_val.out; exact rfl; exact rfl))
   refine bodyPost_ret (Kce rfl _ _ ⟨w.heap.size, 0, none⟩ _ rfl HLD.out) rfl ?_
   exact ⟨#[.int .i64 0, .bool false, .int .i64 0, .string ⟨#[]⟩, .slice none 0 0, .slice none 0 0], rfl, val0_own, HF.out⟩
 | some x =>
   go_wp2_with (first
    | (go_at_call 69; refine HR.out.mono ?_; rintro e W2 ⟨hb2, hs2, hk2, cs, rfl, how, _⟩
       (
        obtain ⟨hb, hbx, hsz⟩ := HB.out
        have hbx2 := (hk2 w.heap.size (by omega) (fun h => h)).trans hbx
        have hcs := Kdj.size how
        have Hst_val := yh (Kbo.put hcs (Kdj.ones how) hbx2 rfl)
        have HLD := yh (Kbo.get (P := Tryz.prog) hcs (setRow_heap W2 w.heap.size _ cs _ _ hbx2))
        have hown : VOwn (W2.setRow w.heap.size cs) (fun b => w.heap.size ≤ b) x cs := Kdj.imp (fun b _ hb => by omega) (Kdj.keep (w' := W2.setRow w.heap.size cs) (fun b hb hlt => setRow_other W2 _ b _ (by omega)) how)
        have HF := yh (And.intro hown (Kch (B := w.heap.size) hb2 (Nat.le_refl _) cs))
        clear hb hbx hsz hb2 hs2 hk2 hbx2 HR how hcs hown))
    | ((with_reducible apply Kad); exact Hst_val.out; exact rfl; exact rfl))
   refine bodyPost_ret (Kce rfl _ _ ⟨w.heap.size, 0, none⟩ _ rfl HLD.out) rfl ?_
   exact ⟨cs, rfl, HF.out.1, HF.out.2⟩
theorem COwn.rd {w : World} {P : Nat → Prop} {c : ChangeD} {x : Array Value} (h : COwn w P c x) (ht : totC c ≤ 900000) : CRd w c x := by
 obtain ⟨a, b, e, h1, h2⟩ := h
 unfold totC at ht
 exact ⟨a, b, e, h1.rd (by omega), h2.rd (by omega)⟩
def okCs (l : List ChangeD) : Bool := decide (l.length ≤ 65536) && l.all okC
theorem fineC_any {w : World} (hE : Env w) {p : Option Addr} {c : Nat} {l : List ChangeD} (h : GRd CRd 11 w p c l) (ht : (l.map totC).sum ≤ 900000) : Calls Tryz.prog 83 #[.slice p l.length c] w fun e w' => e = .returned (.bool (okCs l)) ∧ Below w.heap.size w w' := by
 have HC := yh (allC_any hE h (fun x hx => Nat.le_trans (Kb6 totC hx) ht))
 have hok : okCs l = (decide (l.length ≤ 65536) && l.all okC) := rfl
 rw [hok]
 clear hok h ht hE
 generalize l.all okC = r at *
 by_cases hl : l.length ≤ 65536
 ·have z : (l.length : Int) ≤ 65536 := by omega
  rw [decide_eq_true hl]
  clear hl
  go_enter Tryz.func83, Tryz.ntmps83
  go_wp2_with (go_at_call 75; refine HC.out.mono ?_; rintro e W1 ⟨rfl, hb⟩; have HB2 := yh hb; clear hb)
  go_ret
  exact ⟨rfl, HB2.out⟩
 ·have z : ¬ (l.length : Int) ≤ 65536 := by omega
  rw [decide_eq_false hl]
  clear hl
  go_enter Tryz.func83, Tryz.ntmps83
  go_wp2_with (go_at_call 75; refine HC.out.mono ?_; rintro e W1 ⟨rfl, hb⟩; have HB2 := yh hb; clear hb)
  go_ret
  exact ⟨rfl, Below.refl _ _⟩
def GotC (w : World) (o : Option (List ChangeD)) (e : Ending) (W' : World) : Prop :=
 ∃ v, e = .returned (.tuple #[v, .int .i64 (errR o)]) ∧ GOwn COwn 74 11 W' (fun b => w.heap.size ≤ b) v (o.getD []) ∧ Below w.heap.size w W'
theorem readPub_C {w : World} (hE : Env w) {p : Option Addr} {c : Nat} {bs : List UInt8} (hrd : RdB w (.slice p bs.length c) bs) (hl : bs.length ≤ 900000) :
 Calls Tryz.prog 30 #[.slice p bs.length c] w (GotC w (readW Kdw okCs bs)) := by
 have hR := readC_any Kdw okCs (Below.refl w.heap.size w) hrd (by omega) (fun _ => False) (fun b h => h.elim) (fun _ => True) (fun _ _ _ _ => trivial)
  (fun W1 x cs => ∃ v, cs = #[v] ∧ GOwn COwn 74 11 W1 (fun b => w.heap.size + 3 ≤ b) v x) (fun W1 x cs h => by
    obtain ⟨v, rfl, xs, h1, _⟩ := h
    refine ⟨rfl, fun u hu => ?_⟩
    simp only [List.mem_cons, List.not_mem_nil, or_false] at hu
    subst hu
    exact own_one h1) (fun W1 W2 x cs h hk => by
    obtain ⟨v, rfl, h1⟩ := h
    exact ⟨v, rfl, h1.keep el_change (fun b hb hlt => hk b hb hlt)⟩)
  (fun W1 hs hst hk => (rchanges_any hst (by omega)).mono fun e W2 h => by
    cases hd : Kas Ka5 bs with
    | none =>
      rw [hd] at h
      obtain ⟨t, hb, rfl⟩ := h.none
      exact ⟨t.size, hb, fun b h1 h2 _ => t.keep b h1 h2, .inl ⟨hd, rfl, fun b hb => hb.elim⟩⟩
    | some pp =>
      obtain ⟨x, s⟩ := pp
      rw [hd] at h
      obtain ⟨t, hb, v, rfl, how, hs2⟩ := h.some
      exact ⟨t.size, hb, fun b h1 h2 _ => t.keep b h1 h2, .inr ⟨x, s, #[v], hd, rfl, ⟨v, rfl, how.imp el_change fun b _ hb => by omega⟩, hs2, rt_changes.le hd, trivial⟩⟩)
  (fun W1 x s cs hd how hbw => by
    obtain ⟨v, rfl, h1⟩ := how
    have ht := (tot_of rt_changes df_changes ds_changes hd).1
    have htc : ∀ y ∈ x, totC y ≤ (x.map totC).sum := fun y hy => Kb6 totC hy
    have hlen : x.length ≤ (x.map totC).sum := Kcx totC fun n _ => by unfold totC totN; omega
    obtain ⟨pv, cv, rfl, hg⟩ := h1.rd el_change (F := CRd) (by omega) fun y hy z hz => hz.rd (by have := htc y hy; omega)
    exact fineC_any (hE.b hbw) hg (by omega))
 have HR := yh hR
 clear hE hrd hR
 generalize readW Kdw okCs bs = res at *
 go_enter Tryz.func30, Tryz.ntmps30
 cases res with
 | none =>
   go_wp2_with (go_at_call 79; refine HR.out.mono ?_; rintro e W2 ⟨hb2, hs2, hk2, rfl, _⟩; have HF := yh hb2; clear hb2 hs2 hk2 HR)
   go_ret2
   exact ⟨_, rfl, GOwn.nil, HF.out⟩
 | some x =>
   go_wp2_with (go_at_call 79; refine HR.out.mono ?_; rintro e W2 ⟨hb2, hs2, hk2, cs, rfl, ⟨v, rfl, how⟩, _⟩; have HF := yh (And.intro hb2 how); clear hb2 hs2 hk2 HR how)
   go_ret2
   exact ⟨v, rfl, HF.out.2.imp el_change fun b _ hb => by omega, HF.out.1⟩
theorem results_tmp3 {P : Program} {fn : Func} {p q r : Tmp} (h : fn.results = #[.tmp p, .tmp q, .tmp r]) (tmps : Array Value) (w : World) : (results fn tmps).run P w = .ok (.tuple #[tmps.getD p undef, tmps.getD q undef, tmps.getD r undef]) w := by
 simp [results, h]
def gotN (bs : List UInt8) : Nat × Nat × Int := match rdN 0 0 bs with
 | some (n, r) => (n, bs.length - r.length, 0)
 | none => (0, 0, 290)
theorem readNum_call {w : World} {p : Option Addr} {c : Nat} {bs : List UInt8} (hrd : RdB w (.slice p bs.length c) bs) (hl : bs.length ≤ 900000) :
 Calls Tryz.prog 92 #[.slice p bs.length c, .func (.func 93) #[] #[.pointer (some ⟨w.heap.size, 0, none⟩), .pointer (some ⟨w.heap.size + 1, 0, none⟩)], .func (.func 94) #[] #[]]
  ((w.alloc (.cells #[.slice p bs.length c] 26)).alloc (.cells #[.int .i64 0] 3)) fun e W' => e = .returned (.tuple #[.int .u64 ((gotN bs).1 : Int), .int .i64 (gotN bs).2.2]) ∧ Below w.heap.size w W' ∧ W'.heap[w.heap.size + 1]? = some (.cells #[.int .i64 ((gotN bs).2.1 : Int)] 3 (0, 0)) := by
 have hb : Below w.heap.size w ((w.alloc (.cells #[.slice p bs.length c] 26)).alloc (.cells #[.int .i64 0] 3)) := (Kac _).alloc (by simp) _
 have hbb : ((w.alloc (.cells #[.slice p bs.length c] 26)).alloc (.cells #[.int .i64 0] 3)).heap[w.heap.size]? = some (.cells #[.slice p bs.length c] 26 (0, 0)) := Kak (Kac (w := w.alloc (.cells #[.slice p bs.length c] 26)) (.cells #[.int .i64 0] 3)) (by simp) (heap_alloc_new w _)
 have hnb : ((w.alloc (.cells #[.slice p bs.length c] 26)).alloc (.cells #[.int .i64 0] 3)).heap[w.heap.size + 1]? = some (.cells #[.int .i64 0] 3 (0, 0)) := by
  simp only [Kaf, World.size_alloc]; rw [if_pos trivial]
 have hsz : ((w.alloc (.cells #[.slice p bs.length c] 26)).alloc (.cells #[.int .i64 0] 3)).heap.size = w.heap.size + 2 := by simp
 generalize (w.alloc (.cells #[.slice p bs.length c] 26)).alloc (.cells #[.int .i64 0] 3) = W at *
 have hR := readN_any (W := W) (a1 := some ⟨w.heap.size, 0, none⟩) (a2 := some ⟨w.heap.size + 1, 0, none⟩) dNum (fun _ => true) hb hrd (by omega) (fun b => b = w.heap.size + 1) (fun b h => by omega)
  (fun W1 => W1.heap[w.heap.size + 1]? = some (.cells #[.int .i64 (kNum bs : Int)] 3 (0, 0))) (fun W1 W2 h hk => (hk _ (by omega)).trans h)
  (fun W1 x cs => cs = #[.int .u64 (x : Int)]) (fun W1 x cs h => by subst h; exact ⟨rfl, fun u hu => by simp only [List.mem_cons, List.not_mem_nil, or_false] at hu; subst hu; rfl⟩) (fun W1 W2 x cs h hk => h)
  (fun W1 hs hst hk => by
    have hn := rnumber1_any hst (by omega) ((hk w.heap.size (by omega)).trans hbb) ((hk (w.heap.size + 1) (by omega)).trans hnb) (by omega) (by omega) (by omega)
    refine hn.mono ?_
    rintro e W2 ⟨h1, h2, h3, h4⟩
    refine ⟨h1, h2, fun b hb1 hb2 hb3 => h3 b hb1 hb2 hb3, ?_⟩
    rcases h4 with ⟨g1, rfl, g3⟩ | ⟨n, r, g1, rfl, g3, g4⟩
    ·exact .inl ⟨by unfold dNum; rw [g1]; rfl, rfl, fun b hb => by subst hb; exact g3⟩
    ·exact .inr ⟨n, [], #[.int .u64 (n : Int)], by unfold dNum; rw [g1]; rfl, rfl, rfl, g3, by simp, by unfold kNum; rw [g1]; exact g4⟩)
  (fun W1 x s cs hd how hbw => by subst how; exact anyNumber _ W1)
 refine hR.mono ?_
 rintro e W' ⟨h1, h2, h3, h4⟩
 cases hd : rdN 0 0 bs with
 | none =>
   have hg : readW dNum (fun _ => true) bs = none := by unfold readW dNum; rw [hd]; rfl
   rw [hg] at h4
   obtain ⟨rfl, h5⟩ := h4
   have e1 : gotN bs = (0, 0, 290) := by unfold gotN; rw [hd]
   rw [e1]
   exact ⟨rfl, h1, (h5 (by unfold dNum; rw [hd]; rfl) _ rfl).trans hnb⟩
 | some pp =>
   obtain ⟨n, r⟩ := pp
   have hg : readW dNum (fun _ => true) bs = some n := by unfold readW dNum; rw [hd]; rfl
   rw [hg] at h4
   obtain ⟨cs, rfl, rfl, h5⟩ := h4
   have e1 : gotN bs = (n, bs.length - r.length, 0) := by unfold gotN; rw [hd]
   have e2 : kNum bs = bs.length - r.length := by unfold kNum; rw [hd]
   rw [e2] at h5
   rw [e1]
   exact ⟨rfl, h1, h5⟩
theorem readPub_N {w : World} {p : Option Addr} {c : Nat} {bs : List UInt8} (hrd : RdB w (.slice p bs.length c) bs) (hl : bs.length ≤ 900000) :
 Calls Tryz.prog 37 #[.slice p bs.length c] w fun e W' => e = .returned (.tuple #[.int .u64 ((gotN bs).1 : Int), .int .i64 ((gotN bs).2.1 : Int), .int .i64 (gotN bs).2.2]) ∧ Below w.heap.size w W' := by
 have HR := yh (readNum_call hrd hl)
 clear hrd
 generalize gotN bs = res at *
 go_enter Tryz.func37, Tryz.ntmps37
 go_wp2_with (go_at_call 92; refine HR.out.mono ?_; rintro e W2 ⟨rfl, hb, hn⟩; have HB := yh (And.intro hb hn); clear hb hn HR)
 obtain ⟨hb, hn⟩ := HB.out
 have hd : W2.drew.heap[w.heap.size + 1]? = some (.cells #[.int .i64 (res.2.1 : Int)] 3 (0, 0)) := hn
 refine Kan (fun W => W.cell? ⟨w.heap.size + 1, 0, none⟩ = some (.int .i64 (res.2.1 : Int))) (by kernel_rfl) (Kab (o := 0) hd rfl) (fun hS => ?_)
 refine tk 0 14 (v := .int .u64 (res.1 : Int)) rfl rfl (fun W hW => Kai rfl rfl) ?_
 simp only [Act.put, sA, sZ, sS]
 refine tk 1 15 (v := .int .i64 (res.2.1 : Int)) rfl rfl (fun W hW => Kag rfl rfl (Kah (w := W) Tryz.underlying3 rfl hW)) ?_
 simp only [Act.put, sA, sZ, sS]
 refine tk 2 16 (v := .int .i64 res.2.2) rfl rfl (fun W hW => Kai rfl rfl) ?_
 simp only [Act.put, sA, sZ, sS]
 refine tk 3 2 (v := .int .u64 (res.1 : Int)) rfl rfl (fun W hW => Kbp rfl rfl) ?_
 simp only [Act.put, sA, sZ, sS]
 refine tk 4 3 (v := .int .i64 (res.2.1 : Int)) rfl rfl (fun W hW => Kbp rfl rfl) ?_
 simp only [Act.put, sA, sZ, sS]
 refine tk 5 4 (v := .int .i64 res.2.2) rfl rfl (fun W hW => Kbp rfl rfl) ?_
 simp only [Act.put, sA, sZ, sS]
 refine done (by kernel_rfl) ?_ _
 have HF := yh hb.drew
 clear hb hn hd hS HB
 go_wp2
 refine bodyPost_ret (results_tmp3 rfl _ _) rfl ?_
 exact ⟨rfl, HF.out⟩
def dropC : ChangeD := ⟨3, 0, 0, node0, rel0⟩
def dropL (n : Nat) : List ChangeD := List.replicate n dropC
def dropB (n : Nat) : List UInt8 := (dropL n).flatMap Kax
theorem dropB_len (n : Nat) : (dropB n).length = 2 * n := by
 unfold dropB dropL
 induction n with
 | zero => rfl
 | succ n ih => rw [List.replicate_succ, List.flatMap_cons, List.length_append, ih]; have : (Kax dropC).length = 2 := by unfold Kax dropC; simp [zzN, Kbv]
                omega
theorem dropC_bytes : Kax dropC = [3, 0] := by
 unfold Kax dropC
 simp [zzN, Kbv]
theorem dropB_succ (n : Nat) : dropB (n + 1) = dropB n ++ [3, 0] := by
 unfold dropB dropL
 rw [List.replicate_succ', List.flatMap_append]
 simp [dropC_bytes]
theorem Kcg (n : Nat) : (dropL n).length = n := by unfold dropL; simp
theorem dropL_bytes (n : Nat) : Kbr (dropL n) = numB n ++ dropB n := by
 unfold Kbr rowsC
 rw [Kcg]; rfl
theorem dropL_mem {n : Nat} {c : ChangeD} (h : c ∈ dropL n) : c = dropC := List.eq_of_mem_replicate h
theorem dropC_ok : okC dropC = true := by unfold okC dropC; simp
theorem dropL_ok (n : Nat) : (dropL n).all okC = true := by rw [List.all_eq_true]; exact fun c hc => by rw [dropL_mem hc]; exact dropC_ok
theorem dropC_rng : rngC dropC := ⟨by unfold i64T dropC; simp, Ka3, Ka3, Kdl, Keb⟩
theorem dropL_rng (n : Nat) : ∀ c ∈ dropL n, rngC c := fun c hc => by rw [dropL_mem hc]; exact dropC_rng
theorem dropL_tot (n : Nat) : ((dropL n).map totC).sum = 2 * n := by
 unfold dropL
 induction n with
 | zero => rfl
 | succ n ih => rw [List.replicate_succ, List.map_cons, List.sum_cons, ih]; have : totC dropC = 2 := rfl
                omega
theorem dropL_wf (n : Nat) (h : n < 18446744073709551616) : wfCs (dropL n) := by
 refine ⟨by unfold u64T; rw [Kcg]; exact h, fun c hc => ?_⟩
 rw [dropL_mem hc]
 exact .inr (.inr (.inl ⟨.inr rfl, Ka3, rfl, rfl, rfl⟩))
theorem readW_told {α : Type} {d : Dec α} {e : α → List UInt8} {P : α → Prop} {ok : α → Bool} {x : α} (h : RT d e P) (hP : P x) (hk : ok x = false) : readW d ok (e x) = none := by
 unfold readW
 have := h.full x [] hP
 rw [List.append_nil] at this
 rw [this]
 simp [hk]
theorem numB_lo : numB 65536 = [128, 128, 4] := by
 rw [Kci (by omega), Kci (by omega), Kbv (by omega)]; rfl
theorem numB_hi : numB 65537 = [129, 128, 4] := by
 rw [Kci (by omega), Kci (by omega), Kbv (by omega)]; rfl
theorem dropL_over {n k : Nat} (h0 : (numB n).length = 3) : numB k ++ (Kbr (dropL n)).drop 3 ++ [3, 0] = numB k ++ dropB (n + 1) := by
 rw [dropL_bytes, List.drop_append_of_le_length (by omega), ← h0, List.drop_length, List.nil_append, dropB_succ, List.append_assoc]
structure Drops (L1 L2 : List ChangeD) (B1 B2 : List UInt8) : Prop where
 n1 : L1.length = 65536
 n2 : L2.length = 65537
 a1 : ∀ c ∈ L1, c = dropC
 a2 : ∀ c ∈ L2, c = dropC
 t1 : (L1.map totC).sum ≤ 900000
 t2 : (L2.map totC).sum ≤ 900000
 r1 : ∀ c ∈ L1, rngC c
 r2 : ∀ c ∈ L2, rngC c
 o1 : outC L1 = B1
 e1 : errC L1 = 0
 o2 : outC L2 = []
 e2 : errC L2 = 3
 b1 : B1.length = 131075
 w1 : readW Kdw okCs B1 = some L1
 b2 : [129, 128, 4] ++ B1.drop 3 ++ [3, 0] = B2
 w2 : readW Kdw okCs B2 = none
 l2 : B2.length = 131077
theorem drops_at {n : Nat} (h1 : n = 65536) : ∃ L1 L2 B1 B2, Drops L1 L2 B1 B2 := by
 have hb1 := dropL_bytes n
 have hb2 := dropL_bytes (n + 1)
 have hl1 := dropB_len n
 have hl2 := dropB_len (n + 1)
 have hn : (numB n).length = 3 := by rw [h1, numB_lo]; rfl
 have hn2 : numB (n + 1) = [129, 128, 4] := by rw [h1, numB_hi]
 have hov := dropL_over (k := n + 1) hn
 rw [hn2] at hov hb2
 refine ⟨dropL n, dropL (n + 1), Kbr (dropL n), Kbr (dropL (n + 1)), ⟨by rw [Kcg, h1], by rw [Kcg, h1], fun c hc => dropL_mem hc, fun c hc => dropL_mem hc, by rw [dropL_tot]; omega, by rw [dropL_tot]; omega, dropL_rng n, dropL_rng (n + 1), ?_, ?_, ?_, ?_, ?_, ?_, ?_, ?_, ?_⟩⟩
 ·unfold outC; rw [dropL_ok, Kcg, decide_eq_true (show n ≤ 65536 by omega)]; rfl
 ·unfold errC; rw [dropL_ok, Kcg, if_pos rfl, if_pos (show n ≤ 65536 by omega)]
 ·unfold outC; rw [dropL_ok, Kcg, decide_eq_false (show ¬ n + 1 ≤ 65536 by omega)]; rfl
 ·unfold errC; rw [dropL_ok, Kcg, if_pos rfl, if_neg (show ¬ n + 1 ≤ 65536 by omega)]
 ·rw [hb1, List.length_append, hn, hl1]; omega
 ·exact readW_of rt_changes (dropL_wf n (by omega)) (by unfold okCs; rw [dropL_ok, Kcg, decide_eq_true (show n ≤ 65536 by omega)]; rfl)
 ·rw [hov, hb2]
 ·exact readW_told rt_changes (dropL_wf (n + 1) (by omega)) (by unfold okCs; rw [dropL_ok, Kcg, decide_eq_false (show ¬ n + 1 ≤ 65536 by omega)]; rfl)
 ·rw [hb2, List.length_append, hl2, h1]; rfl
def nestL : Nat → V
 | 0 => .mk 0 false 0 [] [] []
 | n + 1 => .mk 4 false 0 [] [] [nestL n]
def nestB : Nat → List UInt8
 | 0 => []
 | n + 1 => nestB n ++ [4, 1]
theorem nestB_len (n : Nat) : (nestB n).length = 2 * n := by
 induction n with
 | zero => rfl
 | succ n ih => rw [nestB, List.length_append, ih]; simp; omega
theorem nestB_front (n : Nat) : nestB (n + 1) = [4, 1] ++ nestB n := by
 induction n with
 | zero => rfl
 | succ n ih =>
   show nestB (n + 1) ++ [4, 1] = [4, 1] ++ (nestB n ++ [4, 1])
   rw [ih, List.append_assoc]
theorem nestL_bytes (n : Nat) : valC (nestL n) = nestB n ++ [0] := by
 induction n with
 | zero => rw [nestL, valC]; rfl
 | succ n ih =>
   rw [nestL, valC, if_neg (by decide), if_neg (by decide), if_neg (by decide), if_pos rfl, Kd3, nestB_front]
   simp [Kbv, ih]
theorem nestL_may : ∀ n, mayV Lib.validD (nestL n) = true := by
 intro n
 induction n with
 | zero => rw [mayV_iff]; exact ⟨rfl, fun x hx => by cases hx⟩
 | succ n ih =>
   rw [nestL, mayV_iff]
   exact ⟨rfl, fun x hx => by rw [show x = nestL n by simpa [V.list] using hx]; exact ih⟩
theorem nestL_deep : ∀ n, deepV (nestL n) = n + 1 := by
 intro n
 induction n with
 | zero => rfl
 | succ n ih => rw [nestL, deepV, Kdv, Kdv, ih]; omega
theorem nestL_by : ∀ n, bytesV (nestL n) = 0 := by
 intro n
 induction n with
 | zero => rfl
 | succ n ih => rw [nestL, bytesV, Kec, Kec, ih]; rfl
theorem nestL_long : ∀ n, longV (nestL n) ≤ 1 := by
 intro n
 induction n with
 | zero => exact Nat.zero_le _
 | succ n ih => rw [nestL, longV, longVs, longVs]; simp; omega
theorem nestL_ok {n : Nat} (h : n ≤ 63) : okV (nestL n) = true := by
 unfold okV checkV
 rw [nestL_may, nestL_deep, nestL_by]
 have := nestL_long n
 rw [if_pos rfl, if_neg (by simp; omega)]
 rfl
theorem nestL_wf : ∀ n, wfV (n + 1) (nestL n)
 | 0 => by rw [nestL, wfV]; exact .inl ⟨rfl, rfl, rfl, rfl, rfl, rfl⟩
 | n + 1 => by
   rw [nestL, wfV]
   refine .inr (.inr (.inr (.inr (.inl ⟨rfl, rfl, rfl, rfl, rfl, by simp [u64T], fun x hx => ?_⟩))))
   rw [show x = nestL n by simpa using hx]
   exact nestL_wf n
theorem nestL_not : ∀ n, rdVal n (valC (nestL n)) = none
 | 0 => by rw [rdVal]
 | n + 1 => by
   have ih := nestL_not n
   have e : valC (nestL (n + 1)) = 4 :: (numB 1 ++ valC (nestL n)) := by
    rw [nestL, valC, if_neg (by decide), if_neg (by decide), if_neg (by decide), if_pos rfl, Kd3]
    simp
   have hr := Kb8.full 1 (valC (nestL n)) (by unfold u64T; decide)
   rw [e, rdVal, if_neg (by decide), if_neg (by decide), if_neg (by decide), if_neg (by decide), if_pos (by decide)]
   have hrows : Kas (rdVal n) (numB 1 ++ valC (nestL n)) = none := by
    unfold Kas
    rw [hr]
    simp only
    rw [if_pos (show 1 ≤ _ from valC_pos _), Dec.rep, ih]
   rw [hrows]
   rfl
structure Nests (D E F : List UInt8) : Prop where
 d : D.length = 126
 e : D ++ [0] = E
 l1 : E.length ≤ 900000
 v : ∃ x, readW (rdVal 64) okV E = some x
 f : [4, 1] ++ D ++ [0] = F
 l2 : F.length ≤ 900000
 n : readW (rdVal 64) okV F = none
theorem nests_at {n : Nat} (h : n = 63) : Nests (nestB n) (nestB n ++ [0]) ([4, 1] ++ nestB n ++ [0]) := by
 have hl := nestB_len n
 have hw := nestL_wf n
 have hno := nestL_not (n + 1)
 refine ⟨by omega, rfl, by rw [List.length_append, hl]; simp; omega, ⟨nestL n, ?_⟩, rfl, by rw [List.length_append, List.length_append, hl]; simp; omega, ?_⟩
 ·rw [← nestL_bytes]
  have e : n + 1 = 64 := by omega
  rw [e] at hw
  exact readW_of (rt_val 64) hw (nestL_ok (by omega))
 ·rw [nestL_bytes, nestB_front] at hno
  have e : n + 1 = 64 := by omega
  unfold readW
  rw [e] at hno
  rw [hno]
section
variable {w W W1 : World} {o : Value} {l m : List UInt8}
theorem Buf.shape (h : Buf w W o l) : ∃ p c, o = .slice p l.length c := Kbx h.own
theorem Buf.ap (h : Buf w W o l) (hb : Below W.heap.size W W1) {ad : Addr} {c : Nat} (src : ∀ (j : Nat) (u : Value), (m.map byteV)[j]? = some u → W1.cell? (ad.add j) = some u) (hn : l.length + m.length ≤ 70368744177664) (ty : TypeId) :
 ∃ v W', (Builtin.append_ #[26, 26] ty #[o, .slice (some ad) m.length c]).run Tryz.prog W1 = .ok v W' ∧ Buf w W' v (l ++ m) := by
 have h1 := h.below hb
 obtain ⟨i, i1, i2, i3, i4⟩ := info_u8v
 have hsz := h1.b.size
 obtain ⟨v', W', a1, a2, a3, a4, a5⟩ := Kcv (P := Tryz.prog) (w := W1) 26 ty 5 i _ 1 1 Tryz.underlying26 i1 i2 i3 i4 rfl o l.length _ h1.own.1 ad m.length c (m.map byteV)
  (by simp) src (fun u hu => by obtain ⟨s, _, rfl⟩ := List.mem_map.1 hu; rfl) (by unfold maxLen; omega) (by omega)
 refine ⟨v', W', a1, ⟨?_, fun q hq => ?_⟩, ?_⟩
 ·rw [List.length_append, List.map_append]; exact a2
 ·rcases a4 with e | e
  ·exact h1.own.2 q (e.symm.trans hq)
  ·rw [e] at hq; cases hq; exact hsz
 ·exact a3.below h1.b (fun b hb e => by have := h1.own.2 b e; omega) hsz
theorem Buf.apr (h : Buf w W o l) (hb : Below W.heap.size W W1) {a : Option Addr} {n c : Nat} (hm : RdB W1 (.slice a n c) m) (hn : l.length + m.length ≤ 70368744177664) (ty : TypeId) :
 ∃ v W', (Builtin.append_ #[26, 26] ty #[o, .slice a n c]).run Tryz.prog W1 = .ok v W' ∧ Buf w W' v (l ++ m) := by
 obtain ⟨a', cap, heq, h1, h2⟩ := hm
 cases heq
 cases a with
 | none =>
   have hc := h1.2.2 rfl
   have hn : m = [] := List.eq_nil_of_length_eq_zero (by omega)
   subst hn; subst hc
   obtain ⟨i, i1, i2, i3, i4⟩ := info_u8v
   have hbl := h.below hb
   exact ⟨o, W1, append_law_nil (P := Tryz.prog) 26 ty 5 i 1 Tryz.underlying26 i1 i3 o l.length _ hbl.own.1, by rw [List.append_nil]; exact hbl⟩
 | some ad =>
   have hcell := RdB.at (w := W1) (c := c) ⟨_, _, rfl, h1, h2⟩
   exact h.ap hb (fun j u hu => by
    rw [List.getElem?_map, Option.map_eq_some_iff] at hu
    obtain ⟨b, hb, rfl⟩ := hu
    exact hcell j b hb) hn ty
theorem Buf.rd (h : Buf w W o l) : RdB W o l := by
 have hcells := fun (g : Nat) (e : o.ownBlock = some g) => h.own.1.cells (g := g) e
 rcases h.own.1.2 with ⟨rfl, h0⟩ | ⟨g, cap, cur, rfl, _, hg, hnc, hcm, hcs, htake⟩
 ·have : l = [] := List.eq_nil_of_length_eq_zero h0
  subst this
  exact ⟨none, 0, rfl, ⟨Nat.le_refl _, by simp [maxLen], fun _ => rfl⟩, fun ad h => by cases h⟩
 ·refine ⟨some ⟨g, 0, none⟩, cap, rfl, ⟨hnc, hcm, fun h => by cases h⟩, fun ad had => ?_⟩
  cases had
  refine ⟨fun _ => rfl, fun i b hi => ?_⟩
  have := hcells g rfl i (.int .u8 (b.toNat : Int)) (by rw [List.getElem?_map, hi]; rfl)
  rw [Ka9] at this; exact this
end
theorem exec_mkslice {P : Program} {a : Act} {w w' : World} {o : Oper} {t : TypeId} {x y : Operand} {vx vy v : Value} (ho : o.op = .makeSlice t x y) (hx : a.eval x = vx) (hy : a.eval y = vy) (hr : (Instr.makeSlice t vx vy).run P w = .ok v w') : (execOp a.eval o).run P w = .ok (.value v) w' := by
 unfold execOp
 rw [ho]
 simp [Sem.run_bind, hx, hy, hr]
section
variable {P : Program} {ops : Array Oper} {Q : Exit → Act → World → Prop} {rest : List Oper} {a : Act} {w w' : World} {dst : Option Tmp} {t ty : TypeId} {x y : Operand} {vx vy v : Value} {pos : String} {af : Array Edge}
theorem op_make (hr : (Instr.makeSlice t vx vy).run P w = .ok v w') (hx : a.eval x = vx) (hy : a.eval y = vy) (h : wpList P ops Q rest (a.put dst v) w') : wpList P ops Q (⟨dst, .makeSlice t x y, ty, pos, af, none⟩ :: rest) a w := Kba rfl (exec_mkslice rfl hx hy hr) h
end
abbrev chK (K : Int) : Array Value := #[.int .i64 K, .int .i64 0, .int .i64 0, .int .i64 0, .slice none 0 0, .slice none 0 0, .int .i64 0, .int .i64 0, .int .i64 0, .string ⟨#[]⟩, .slice none 0 0]
structure DRow (cs : Array Value) (n j : Nat) : Prop where
 size : cs.size = n * 11
 all : ∀ i, i < n → ∀ k, k < 11 → cs[i * 11 + k]? = (chK (if i < j then 3 else 0))[k]?
theorem chK_rest : ∀ k, k ≠ 0 → (chK 0)[k]? = (chK 3)[k]?
 | 0, h => absurd rfl h
 | 1, _ => rfl
 | 2, _ => rfl
 | 3, _ => rfl
 | 4, _ => rfl
 | 5, _ => rfl
 | 6, _ => rfl
 | 7, _ => rfl
 | 8, _ => rfl
 | 9, _ => rfl
 | 10, _ => rfl
 | _ + 11, _ => rfl
theorem DRow.step {cs : Array Value} {n j : Nat} (h : DRow cs n j) (hj : j < n) : DRow (cs.setIfInBounds (j * 11) (.int .i64 3)) n (j + 1) := by
 refine ⟨by rw [Array.size_setIfInBounds]; exact h.size, fun i hi k hk => ?_⟩
 have hs := h.size
 rw [Array.getElem?_setIfInBounds]
 by_cases e : j * 11 = i * 11 + k
 ·have hij : i = j := by omega
  have hk0 : k = 0 := by omega
  subst hij hk0
  rw [if_pos e, if_pos (by omega), if_pos (by omega)]
  rfl
 ·rw [if_neg e, h.all i hi k hk]
  by_cases hij : i = j
  ·subst hij
   rw [if_neg (by omega), if_pos (by omega)]
   exact chK_rest k (fun e2 => e (by omega))
  ·by_cases hlt : i < j
   ·rw [if_pos hlt, if_pos (by omega)]
   ·rw [if_neg hlt, if_neg (by omega)]
theorem drop_rd (W : World) : CRd W dropC (chK 3) := ⟨#[.int .i64 0, .slice none 0 0, .slice none 0 0], #[.int .i64 0, .int .i64 0, .int .i64 0, .string ⟨#[]⟩, .slice none 0 0], rfl,
 ⟨none, 0, none, 0, rfl, ⟨Nat.le_refl _, ⟨by simp [dropC, node0], by omega⟩, (fun _ => rfl), (fun s hs => by cases hs), fun ad h => by cases h⟩, ⟨⟨Nat.le_refl _, by simp [dropC, node0], fun _ => rfl⟩, fun ad h => by cases h⟩⟩,
 ⟨none, 0, rfl, by simp [dropC, rel0], ⟨⟨Nat.le_refl _, by simp [dropC, rel0], fun _ => rfl⟩, fun ad h => by cases h⟩⟩⟩
theorem drops_rd {W : World} {g n : Nat} {cs : Array Value} {L : List ChangeD} (h : W.heap[g]? = some (.cells cs 74 (0, 0))) (hd : DRow cs n n) (ha : ∀ c ∈ L, c = dropC) (hl : L.length ≤ n) (hn : n ≤ 100000) : GRd CRd 11 W (some ⟨g, 0, none⟩) n L := by
 refine ⟨⟨hl, ⟨by omega, by omega⟩, fun e => by cases e⟩, fun ad had => ?_⟩
 cases had
 refine ⟨fun _ => rfl, fun j v hv => ?_⟩
 obtain ⟨hj, rfl⟩ := List.getElem?_eq_some_iff.1 hv
 have hj : j < n := by omega
 refine ⟨chK 3, rfl, fun i u hu => ?_, by rw [ha _ (List.getElem_mem _)]; exact drop_rd W⟩
 have hi : i < 11 := by have := (Array.getElem?_eq_some_iff.1 hu).1; simpa using this
 refine Kab (o := 0 + j * 11 + i) h ?_
 rw [Nat.zero_add, hd.all j hj i hi, if_pos hj]
 exact hu
theorem make_drops (n : Nat) (hn : n ≤ 100000) (w : World) :
 ∃ w' cs, (Instr.makeSlice 58 (.int .i64 (n : Int)) (.int .i64 (n : Int))).run Tryz.prog w = .ok (.slice (some ⟨w.heap.size, 0, none⟩) n n) w' ∧ w'.heap[w.heap.size]? = some (.cells cs 74 (0, 0)) ∧ DRow cs n 0 ∧ Below w.heap.size w w' := by
 obtain ⟨i0, h1, h2, h3, h4⟩ := info_change
 have hr := run_makeSlice (P := Tryz.prog) (w := w) 58 74 i0 _ Tryz.underlying58 h1 h2 .i64 .i64 (n : Int) (n : Int) (by omega) (Int.le_refl _) (by rw [h3]; omega) (by rw [h4]; omega) (by omega)
 simp only [Int.toNat_natCast, h3] at hr
 refine ⟨_, _, hr, heap_alloc_new w _, ⟨size_madeCells _ _, fun i hi k hk => ?_⟩, Kac _⟩
 have h5 : i * 11 + k < n * 11 := by omega
 have h6 : (i * 11 + k) % 11 = k := by omega
 unfold madeCells
 rw [Array.getElem?_map, Array.getElem?_range, if_pos h5, Option.map_some, if_neg (by omega)]
 show some ((chK 0)[(i * 11 + k) % 11]!) = _
 rw [h6, getElem!_def]
 match k, hk with
 | 0, _ => rfl
 | 1, _ => rfl
 | 2, _ => rfl
 | 3, _ => rfl
 | 4, _ => rfl
 | 5, _ => rfl
 | 6, _ => rfl
 | 7, _ => rfl
 | 8, _ => rfl
 | 9, _ => rfl
 | 10, _ => rfl
theorem put_kindC {w : World} {ad : Addr} {n : Int} {u : Value} (hc : w.cell? ad = some u) (hf : w.frozen? ad = false) : (storeVar 67 ad (.int .i64 n)).run Tryz.prog w = .ok () (w.setCell ad (.int .i64 n)) := by
 simp [storeVar, go_sem, hc, hf]
def DInv (w : World) (j : Nat) (W : World) : Prop := ∃ cs, W.heap[w.heap.size]? = some (.cells cs 74 (0, 0)) ∧ DRow cs 65537 j ∧ Below w.heap.size w W
theorem DInv.step {w W : World} {j : Nat} (h : DInv w j W) (hj : j < 65537) : (storeVar 67 ⟨w.heap.size, j * 11, none⟩ (.int .i64 3)).run Tryz.prog W = .ok () (W.setCell ⟨w.heap.size, j * 11, none⟩ (.int .i64 3)) ∧ DInv w (j + 1) (W.setCell ⟨w.heap.size, j * 11, none⟩ (.int .i64 3)) := by
 obtain ⟨cs, h1, h2, h3⟩ := h
 have hat := h2.all j hj 0 (by omega)
 rw [Nat.add_zero, if_neg (by omega)] at hat
 have hc : cs[j * 11]? = some (.int .i64 0) := hat.trans rfl
 exact ⟨put_kindC (Kab (o := j * 11) h1 hc) (Kav (o := j * 11) h1), _, Kcw (.int .i64 3) h1, h2.step hj, Kbf h3 (Nat.le_refl _) _⟩
theorem over_one {W : World} {p : Option Addr} {c : Nat} {B : List UInt8} (h : RdB W (.slice p B.length c) B) (h3 : 3 ≤ B.length) (hl : B.length ≤ 900000) :
 ∃ p2 c2 v2 W2, (∀ W', (Instr.sliceAt 26 (.slice p B.length c) (some (.int .i64 3)) none none).run Tryz.prog W' = .ok (.slice p2 (B.length - 3) c2) W') ∧
  (Builtin.append_ #[26, 26] 26 #[.slice (some ⟨W.heap.size, 0, none⟩) 3 3, .slice p2 (B.length - 3) c2]).run Tryz.prog (W.alloc (.cells #[.int .u8 129, .int .u8 128, .int .u8 4] 5)) = .ok v2 W2 ∧ Buf W W2 v2 ([129, 128, 4] ++ B.drop 3) := by
 have hb0 := Kac (w := W) (.cells #[.int .u8 129, .int .u8 128, .int .u8 4] 5)
 have hB0 := Buf.start (w := W) (W := W) (Below.refl _ _) (m := [129, 128, 4]) (cs := #[.int .u8 129, .int .u8 128, .int .u8 4]) rfl (by simp)
 obtain ⟨p2, s1, s2⟩ := rd_rest h (k := 3) h3
 have el : (B.drop 3).length = B.length - 3 := List.length_drop
 obtain ⟨v2, W2, a1, a2⟩ := hB0.apr (W1 := W.alloc (.cells #[.int .u8 129, .int .u8 128, .int .u8 4] 5)) (Below.refl _ _) (s2.below hb0) (by simp; omega) 26
 exact ⟨p2, c - 3, v2, W2, fun W' => (Kbn Tryz.underlying26 _ _ _ _ W').trans (s1 W'), a1, a2⟩
theorem buf_more {w W : World} {o : Value} {l m : List UInt8} {cs : Array Value} (h : Buf w W o l) (hc : cs.toList = m.map byteV) (hl : l.length ≤ 900000) (hm : m.length ≤ 1000) : ∃ p c W2, (Builtin.append_ #[26, 26] 26 #[o, .slice (some ⟨W.heap.size, 0, none⟩) m.length m.length]).run Tryz.prog (W.alloc (.cells cs 5)) = .ok (.slice p (l ++ m).length c) W2 ∧ Buf w W2 (.slice p (l ++ m).length c) (l ++ m) := by
 have hB := Buf.start (w := W) (W := W) (Below.refl _ _) (m := m) (cs := cs) hc (by omega)
 obtain ⟨v2, W2, a1, a2⟩ := h.apr (Kac _) hB.rd (by omega) 26
 obtain ⟨p, c, rfl⟩ := a2.shape
 exact ⟨p, c, W2, a1, a2⟩
theorem buf_add {w W : World} {o : Value} {l m : List UInt8} {cs : Array Value} (h : Buf w W o l) (hc : cs.toList = m.map byteV) (hl : l.length ≤ 900000) (hm : m.length ≤ 1000) : ∃ v W2, (Builtin.append_ #[26, 26] 26 #[o, .slice (some ⟨W.heap.size, 0, none⟩) m.length m.length]).run Tryz.prog (W.alloc (.cells cs 5)) = .ok v W2 ∧ Buf w W2 v (l ++ m) := by
 obtain ⟨p, c, W2, a1, a2⟩ := buf_more h hc hl hm
 exact ⟨_, W2, a1, a2⟩
theorem put_three {W : World} {o : Value} {D m E : List UInt8} {cs : Array Value} (h : RdB W o D) (hc : cs.toList = m.map byteV) (hl : D.length ≤ 800000) (hm : m.length ≤ 1000) (he : m ++ D ++ [0] = E) :
 ∃ v2 W2 p c W3, (Builtin.append_ #[26, 26] 26 #[.slice (some ⟨W.heap.size, 0, none⟩) m.length m.length, o]).run Tryz.prog (W.alloc (.cells cs 5)) = .ok v2 W2 ∧
  (Builtin.append_ #[26, 26] 26 #[v2, .slice (some ⟨W2.heap.size, 0, none⟩) 1 1]).run Tryz.prog (W2.alloc (.cells #[.int .u8 0] 5)) = .ok (.slice p E.length c) W3 ∧ Buf W W3 (.slice p E.length c) E := by
 subst he
 have hb0 := Kac (w := W) (.cells cs 5)
 have hB0 := Buf.start (w := W) (W := W) (Below.refl _ _) (m := m) (cs := cs) hc (by omega)
 obtain ⟨a, cp, rfl, hr⟩ := h
 obtain ⟨v2, W2, a1, a2⟩ := hB0.apr (W1 := W.alloc (.cells cs 5)) (Below.refl _ _) (RdB.below (v := .slice a D.length cp) ⟨a, cp, rfl, hr⟩ hb0) (by omega) 26
 obtain ⟨p, c, W3, b1, b2⟩ := buf_more a2 (m := [0]) (cs := #[.int .u8 0]) rfl (by rw [List.length_append]; omega) (by simp)
 exact ⟨v2, W2, p, c, W3, a1, b1, b2⟩
theorem buf_nil (w : World) : Buf w w (.slice none 0 0) [] := ⟨⟨⟨by simp, .inl ⟨rfl, rfl⟩⟩, fun g hg => by simp [Value.ownBlock] at hg⟩, Below.refl _ _⟩
theorem num_err (n : Int) (w : World) : Calls Tryz.prog 12 #[.int .i64 n] w fun e w' => e = .returned (.int .i64 n) ∧ w = w' := by
 go_enter Tryz.func12, Tryz.ntmps12
 go_wp2
 go_ret
 exact ⟨rfl, rfl⟩
theorem eql_bytesS (a b : List UInt8) (W : World) : (binOp .eql 9 (.string (strB a)) (.string (strB b))).run Tryz.prog W = .ok (.bool (decide (a = b))) W := by
 have e : (strB a = strB b) ↔ a = b := strB_inj
 by_cases h : a = b
 ·subst h; simp [go_sem]
 ·rw [decide_eq_false h]
  simp [go_sem, Kb9, h]
theorem bytes_any {w : World} {p p2 : Option Addr} {c c2 : Nat} {l m : List UInt8} (h : RdB w (.slice p l.length c) l) (h2 : RdB w (.slice p2 m.length c2) m) : Calls Tryz.prog 14 #[.slice p l.length c, .slice p2 m.length c2] w fun e w' => e = .returned (.bool (decide (l = m))) ∧ w = w' := by
 have H1 := yh (bytes_str h)
 have H2 := yh (bytes_str h2)
 have H3 := yh (eql_bytesS l m)
 clear h h2
 generalize strB l = x at *
 generalize strB m = y at *
 generalize decide (l = m) = r at *
 go_enter Tryz.func14, Tryz.ntmps14
 go_wp2_with (first
  | ((with_reducible apply Kby); exact H1.out; exact rfl)
  | ((with_reducible apply Kby); exact H2.out; exact rfl)
  | (refine Kba rfl (exec_bins rfl rfl rfl (H3.out _)) ?_))
 go_ret
 exact ⟨rfl, rfl⟩
theorem own_rdB {w : World} {P : Nat → Prop} {o : Value} {l : List UInt8} (h : OwnsP w P 5 1 o l.length (l.map byteV)) : ∃ p c, o = .slice p l.length c ∧ RdB w (.slice p l.length c) l := by
 have hc := fun g => h.1.cells (g := g)
 rcases h.1.2 with ⟨rfl, h0⟩ | ⟨g, cap, cur, rfl, _, hg, hnc, hcm, _⟩
 ·have : l = [] := List.eq_nil_of_length_eq_zero h0
  subst this
  exact ⟨none, 0, rfl, none, 0, rfl, ⟨Nat.le_refl _, by simp [maxLen], fun _ => rfl⟩, fun ad had => by cases had⟩
 ·refine ⟨some ⟨g, 0, none⟩, cap, rfl, some ⟨g, 0, none⟩, cap, rfl, ⟨hnc, hcm, fun h => by cases h⟩, fun ad had => ⟨fun _ => by cases had; rfl, fun i b hb => ?_⟩⟩
  cases had
  have := hc g rfl i (byteV b) (by rw [List.getElem?_map, hb]; rfl)
  rw [Ka9] at this
  simpa [byteV] using this
theorem lit_rd {W : World} {g : Nat} {cs : Array Value} {T : TypeId} {l : List UInt8} (h : W.heap[g]? = some (.cells cs T (0, 0))) (hc : cs.toList = l.map byteV) (hl : l.length ≤ 1000000) : RdB W (.slice (some ⟨g, 0, none⟩) l.length l.length) l := by
 refine ⟨some ⟨g, 0, none⟩, l.length, rfl, ⟨Nat.le_refl _, by unfold maxLen; omega, fun h => by cases h⟩, fun ad had => ⟨fun _ => by cases had; rfl, fun i b hb => ?_⟩⟩
 cases had
 refine Kab (o := 0 + i) h ?_
 rw [Nat.zero_add, ← Array.getElem?_toList, hc, List.getElem?_map, hb]
 rfl
def Kdh : GraphD := ⟨[⟨0, [[65]], []⟩], [], 1, 0⟩
theorem wk_okNm : okNm [65] = true := by
 unfold okNm
 have : Lib.validD [65] = true := by rfl
 rw [this]; rfl
theorem wk_okG : okG Kdh = true := by
 unfold okG okSz okNs okRs okN Kdh okPs
 simp [Ka7, Kb4, wk_okNm]
theorem wk_graphC : Kdp Kdh = [1, 0, 1, 1, 65, 0, 0, 1, 0] := by
 unfold Kdp rowsC nodeC Kdh rowsC textC toU
 simp [Kbv]
theorem wk_rng : rngG Kdh := by
 unfold rngG rngN rngR rngP Kdh i64T
 simp
theorem wk_tot : totG Kdh = 3 := rfl
theorem wk_wf : wfG Kdh := wf_of_okG wk_okG wk_rng (by rw [wk_tot]; omega)
theorem wk_readG : readW rdGraph okG [1, 0, 1, 1, 65, 0, 0, 1, 0] = some Kdh := by
 rw [← wk_graphC]
 exact readW_of rt_graph wk_wf wk_okG
def Kb2 : ChangeD := ⟨2, 5, 0, node0, rel0⟩
theorem wk_okC : ([Kb2] : List ChangeD).all okC = true := by
 unfold okC Kb2
 simp
theorem wk_changesC : Kbr [Kb2] = [1, 2, 10] := by
 unfold Kbr rowsC Kax Kb2 zzN
 simp [Kbv]
theorem wk_readV : readW (rdVal 64) okV [0, 0] = none := by
 have : rdVal 64 [0, 0] = some (.mk 0 false 0 [] [] [], [0]) := by
  rfl
 unfold readW
 rw [this]
theorem wk_readN : gotN [172, 2, 7] = (300, 2, 0) := by
 unfold gotN
 have h := Kb8.full 300 [7] (by unfold u64T; omega)
 have e : numB 300 = [172, 2] := by rw [Kci (by omega), Kbv (by omega)]; rfl
 rw [e] at h
 have e2 : ([172, 2] : List UInt8) ++ [7] = [172, 2, 7] := rfl
 rw [e2] at h
 rw [h]
 rfl
theorem rds_one {W : World} {g : Nat} {T : TypeId} {s : List UInt8} (h : W.heap[g]? = some (.cells #[.string (strB s)] T (0, 0))) (hs : s.length ≤ 1000000) : RdS W (some ⟨g, 0, none⟩) 1 [s] := by
 refine ⟨Nat.le_refl _, ⟨by simp, by omega⟩, (fun h => by cases h), (fun x hx => by simp at hx; subst hx; omega), fun ad had => ⟨fun _ => by cases had; rfl, fun i t ht => ?_⟩⟩
 cases had
 match i, ht with
 | 0, ht => cases ht; exact Kab (o := 0) h rfl
 | n + 1, ht => simp at ht
theorem wk_graph_rd {w : World} : GrRd (((w.alloc (.cells #[.string ⟨#[65]⟩] 9)).alloc (.cells #[.int .i64 0, .slice (some ⟨w.heap.size, 0, none⟩) 1 1, .slice none 0 0] 70)).alloc (.cells #[.slice (some ⟨w.heap.size + 1, 0, none⟩) 1 1, .slice none 0 0, .int .i64 1, .int .i64 0] 25)) Kdh
 #[.slice (some ⟨w.heap.size + 1, 0, none⟩) 1 1, .slice none 0 0, .int .i64 1, .int .i64 0] := by
 have h1 : (((w.alloc (.cells #[.string ⟨#[65]⟩] 9)).alloc (.cells #[.int .i64 0, .slice (some ⟨w.heap.size, 0, none⟩) 1 1, .slice none 0 0] 70)).alloc (.cells #[.slice (some ⟨w.heap.size + 1, 0, none⟩) 1 1, .slice none 0 0, .int .i64 1, .int .i64 0] 25)).heap[w.heap.size + 1]? = some (.cells #[.int .i64 0, .slice (some ⟨w.heap.size, 0, none⟩) 1 1, .slice none 0 0] 70 (0, 0)) := by
  simp only [Kaf, World.size_alloc]; rw [if_neg (by omega), if_pos trivial]
 have h0 : (((w.alloc (.cells #[.string ⟨#[65]⟩] 9)).alloc (.cells #[.int .i64 0, .slice (some ⟨w.heap.size, 0, none⟩) 1 1, .slice none 0 0] 70)).alloc (.cells #[.slice (some ⟨w.heap.size + 1, 0, none⟩) 1 1, .slice none 0 0, .int .i64 1, .int .i64 0] 25)).heap[w.heap.size]? = some (.cells #[.string ⟨#[65]⟩] 9 (0, 0)) := by
  simp only [Kaf, World.size_alloc]; rw [if_neg (by omega), if_neg (by omega), if_pos trivial]
 refine ⟨some ⟨w.heap.size + 1, 0, none⟩, 1, none, 0, rfl, grd_one h1 rfl ?_, grd_none⟩
 exact ⟨some ⟨w.heap.size, 0, none⟩, 1, none, 0, rfl, rds_one (s := [65]) h0 (by simp), grd_none⟩
theorem wk_callG {w : World} (hE : Env w) : Calls Tryz.prog 11 #[.agg #[.slice (some ⟨w.heap.size + 1, 0, none⟩) 1 1, .slice none 0 0, .int .i64 1, .int .i64 0]]
 (((w.alloc (.cells #[.string ⟨#[65]⟩] 9)).alloc (.cells #[.int .i64 0, .slice (some ⟨w.heap.size, 0, none⟩) 1 1, .slice none 0 0] 70)).alloc (.cells #[.slice (some ⟨w.heap.size + 1, 0, none⟩) 1 1, .slice none 0 0, .int .i64 1, .int .i64 0] 25)) fun e W => ∃ p c, e = .returned (.tuple #[.slice p 9 c, .int .i64 0]) ∧ RdB W (.slice p 9 c) [1, 0, 1, 1, 65, 0, 0, 1, 0] ∧ Below w.heap.size w W := by
 have hb : Below w.heap.size w (((w.alloc (.cells #[.string ⟨#[65]⟩] 9)).alloc (.cells #[.int .i64 0, .slice (some ⟨w.heap.size, 0, none⟩) 1 1, .slice none 0 0] 70)).alloc (.cells #[.slice (some ⟨w.heap.size + 1, 0, none⟩) 1 1, .slice none 0 0, .int .i64 1, .int .i64 0] 25)) := ((Kac _).alloc (by simp) _).alloc (by simp; omega) _
 refine (codecGraph_any (hE.b hb) wk_graph_rd wk_rng (by rw [wk_tot]; omega)).mono ?_
 rintro e W ⟨o, rfl, ho, hbw⟩
 have e1 : outG Kdh = [1, 0, 1, 1, 65, 0, 0, 1, 0] := by unfold outG; rw [wk_okG, wk_graphC]; rfl
 rw [e1] at ho
 obtain ⟨p, c, rfl, hr⟩ := own_rdB ho
 exact ⟨p, c, by rw [wk_okG]; rfl, hr, Kaa hb hbw⟩
theorem wk_callRG {W : World} (hE : Env W) {p : Option Addr} {c : Nat} (h : RdB W (.slice p 9 c) [1, 0, 1, 1, 65, 0, 0, 1, 0]) : Calls Tryz.prog 16 #[.slice p 9 c] W fun e W' => ∃ pn cn vr, e = .returned (.tuple #[.agg #[.slice pn 1 cn, vr, .int .i64 1, .int .i64 0], .int .i64 0]) ∧ vr.oneCell' = true ∧ Below W.heap.size W W' := by
 refine (readPub_G (bs := [1, 0, 1, 1, 65, 0, 0, 1, 0]) hE h (by simp)).mono ?_
 rintro e W' ⟨cs, rfl, ho, hb⟩
 rw [wk_readG] at ho ⊢
 obtain ⟨vn, vr, rfl, h1, h2⟩ := ho
 obtain ⟨pn, cn, rfl⟩ := h1.slice
 refine ⟨pn, cn, vr, rfl, ?_, hb⟩
 obtain ⟨xs, h3, _⟩ := h2
 exact own_one h3
abbrev wkCh : Array Value := #[.int .i64 2, .int .i64 5, .int .i64 0, .int .i64 0, .slice none 0 0, .slice none 0 0, .int .i64 0, .int .i64 0, .int .i64 0, .string ⟨#[]⟩, .slice none 0 0]
theorem wk_change_rd {W : World} : CRd W Kb2 wkCh :=
 ⟨#[.int .i64 0, .slice none 0 0, .slice none 0 0], #[.int .i64 0, .int .i64 0, .int .i64 0, .string ⟨#[]⟩, .slice none 0 0], rfl, ⟨none, 0, none, 0, rfl, ⟨Nat.le_refl _, ⟨by simp [Kb2, node0], by omega⟩, fun _ => rfl, fun s hs => (by simp [Kb2, node0] at hs), fun ad h => by cases h⟩, grd_none⟩, ⟨none, 0, rfl, by simp [Kb2, rel0], grd_none⟩⟩
theorem wk_callC {W : World} (hE : Env W) : Calls Tryz.prog 27 #[.slice (some ⟨W.heap.size, 0, none⟩) 1 1] (W.alloc (.cells wkCh 74)) fun e W' => ∃ p c, e = .returned (.tuple #[.slice p 3 c, .int .i64 0]) ∧ RdB W' (.slice p 3 c) [1, 2, 10] ∧ Below W.heap.size W W' := by
 have hb := Kac (w := W) (.cells wkCh 74)
 have hx := heap_alloc_new W (.cells wkCh 74)
 refine (Kc7 (l := [Kb2]) (hE.b hb) (grd_one hx rfl wk_change_rd) (fun x hx => ?_) (by simp [Kb2, totC, totN, totR, node0, rel0, totLs, totPs])).mono ?_
 ·simp only [List.mem_cons, List.not_mem_nil, or_false] at hx
  subst hx
  exact ⟨by unfold Kb2 i64T; simp, by unfold Kb2 i64T; simp, by unfold Kb2 i64T; simp, Kdl, Keb⟩
 ·rintro e W' ⟨o, rfl, ho, hbw⟩
  have e1 : outC [Kb2] = [1, 2, 10] := by unfold outC; rw [wk_okC, wk_changesC]; rfl
  have e2 : errC [Kb2] = 0 := by unfold errC; rw [wk_okC]; rfl
  rw [e1] at ho
  obtain ⟨p, c, rfl, hr⟩ := own_rdB ho
  exact ⟨p, c, by rw [e2]; rfl, hr, Kaa hb hbw⟩
theorem wk_callRV {W : World} (hE : Env W) : Calls Tryz.prog 23 #[.slice (some ⟨W.heap.size, 0, none⟩) 2 2] (W.alloc (.cells #[.int .u8 0, .int .u8 0] 5)) fun e W' => ∃ cs, e = .returned (.tuple #[.agg cs, .int .i64 290]) ∧ (cs.size = 6 ∧ ∀ u ∈ cs.toList, u.oneCell' = true) ∧ Below W.heap.size W W' := by
 have hb := Kac (w := W) (.cells #[.int .u8 0, .int .u8 0] 5)
 have hx := heap_alloc_new W (.cells #[.int .u8 0, .int .u8 0] 5)
 refine (readPub_V (bs := [0, 0]) (hE.b hb) (lit_rd (l := [0, 0]) hx rfl (by simp)) (by simp)).mono ?_
 rintro e W' ⟨cs, rfl, ho, hbw⟩
 rw [wk_readV] at ho ⊢
 exact ⟨cs, rfl, ⟨ho.size6, ho.ones⟩, Kaa hb hbw⟩
theorem wk_callRN {W : World} : Calls Tryz.prog 37 #[.slice (some ⟨W.heap.size, 0, none⟩) 3 3] (W.alloc (.cells #[.int .u8 172, .int .u8 2, .int .u8 7] 5)) fun e W' => e = .returned (.tuple #[.int .u64 300, .int .i64 2, .int .i64 0]) ∧ Below W.heap.size W W' := by
 have hb := Kac (w := W) (.cells #[.int .u8 172, .int .u8 2, .int .u8 7] 5)
 have hx := heap_alloc_new W (.cells #[.int .u8 172, .int .u8 2, .int .u8 7] 5)
 refine (readPub_N (bs := [172, 2, 7]) (lit_rd (l := [172, 2, 7]) hx rfl (by simp)) (by simp)).mono ?_
 rintro e W' ⟨rfl, hbw⟩
 rw [wk_readN]
 exact ⟨rfl, Kaa hb hbw⟩
abbrev wkL9 : Array Value := #[.int .u8 1, .int .u8 0, .int .u8 1, .int .u8 1, .int .u8 65, .int .u8 0, .int .u8 0, .int .u8 1, .int .u8 0]
abbrev wkL3 : Array Value := #[.int .u8 1, .int .u8 2, .int .u8 10]
theorem wk_bytes9 {W : World} {p : Option Addr} {c : Nat} (h : RdB W (.slice p 9 c) [1, 0, 1, 1, 65, 0, 0, 1, 0]) : Calls Tryz.prog 14 #[.slice p 9 c, .slice (some ⟨W.heap.size, 0, none⟩) 9 9] (W.alloc (.cells wkL9 5)) fun e W' => e = .returned (.bool true) ∧ W.alloc (.cells wkL9 5) = W' := by
 have hb := Kac (w := W) (.cells wkL9 5)
 refine (bytes_any (l := [1, 0, 1, 1, 65, 0, 0, 1, 0]) (m := [1, 0, 1, 1, 65, 0, 0, 1, 0]) (h.below hb) (lit_rd (l := [1, 0, 1, 1, 65, 0, 0, 1, 0]) (heap_alloc_new W (.cells wkL9 5)) rfl (by simp))).mono ?_
 rintro e W' ⟨rfl, rfl⟩
 exact ⟨rfl, rfl⟩
theorem wk_bytes3 {W : World} {p : Option Addr} {c : Nat} (h : RdB W (.slice p 3 c) [1, 2, 10]) : Calls Tryz.prog 14 #[.slice p 3 c, .slice (some ⟨W.heap.size, 0, none⟩) 3 3] (W.alloc (.cells wkL3 5)) fun e W' => e = .returned (.bool true) ∧ W.alloc (.cells wkL3 5) = W' := by
 have hb := Kac (w := W) (.cells wkL3 5)
 refine (bytes_any (l := [1, 2, 10]) (m := [1, 2, 10]) (h.below hb) (lit_rd (l := [1, 2, 10]) (heap_alloc_new W (.cells wkL3 5)) rfl (by simp))).mono ?_
 rintro e W' ⟨rfl, rfl⟩
 exact ⟨rfl, rfl⟩
theorem worksG_any {w : World} (hE : Env w) : Calls Tryz.prog 10 #[] w fun e w' => e = .returned (.bool true) ∧ Below w.heap.size w w' := by
 have HG := yh (wk_callG hE)
 have HE := yh hE
 clear hE
 go_enter Tryz.func10, Tryz.ntmps10
 go_wp2_with (first
  | (go_at_call 11; refine HG.out.mono ?_; rintro e W2 ⟨p, c, rfl, hr, hb⟩; have H2 := yh (And.intro hr hb); clear hr hb HG)
  | (go_at_call 16; refine (wk_callRG (HE.out.b H2.out.2) H2.out.1).mono ?_; rintro e W3 ⟨pn, cn, vr, rfl, hv, hb⟩
     (
      have HS := yh (Kbt.fresh (P := Tryz.prog) (W := W3) (cs := #[.slice pn 1 cn, vr, .int .i64 1, .int .i64 0]) rfl (by intro u hu; simp only [List.mem_cons, List.not_mem_nil, or_false] at hu; rcases hu with rfl | rfl | rfl | rfl <;> first | rfl | assumption))
      have H3 := yh (And.intro (H2.out.1.below hb) (Kaa H2.out.2 hb))
      clear hv hb H2))
  | ((with_reducible apply Kad); exact HS.out _ rfl; exact rfl; exact rfl
     (
      have hbn := Kac (w := W3) (.cells #[.slice pn 1 cn, vr, .int .i64 1, .int .i64 0] 25)
      have H4 := yh (And.intro (H3.out.1.below hbn) (And.intro (Kaa H3.out.2 hbn) (heap_alloc_new W3 (.cells #[.slice pn 1 cn, vr, .int .i64 1, .int .i64 0] 25))))
      clear hbn HS H3
      generalize W3.alloc (.cells #[.slice pn 1 cn, vr, .int .i64 1, .int .i64 0] 25) = W4 at *
      generalize W3.heap.size = B4 at *
      have HC := yh (wk_callC (HE.out.b H4.out.2.1))))
  | (go_at_call 27
     (
      refine HC.out.mono ?_; rintro e W5 ⟨p5, c5, rfl, hr5, hb⟩
      have H5 := yh (And.intro (H4.out.1.below hb) (And.intro (Kaa H4.out.2.1 hb) (And.intro (Kak hb (Array.getElem?_eq_some_iff.1 H4.out.2.2).1 H4.out.2.2) hr5)))
      clear hb hr5 HC H4
      have HV := yh (wk_callRV (HE.out.b H5.out.2.1))))
  | (go_at_call 23
     (
      refine HV.out.mono ?_; rintro e W6 ⟨cv, rfl, hcv, hb⟩
      have HS2 := yh (Kbo.fresh (P := Tryz.prog) (W := W6) hcv.1 hcv.2)
      have H6 := yh (And.intro (H5.out.1.below hb) (And.intro (Kaa H5.out.2.1 hb) (And.intro (Kak hb (Array.getElem?_eq_some_iff.1 H5.out.2.2.1).1 H5.out.2.2.1) (H5.out.2.2.2.below hb))))
      clear hb hcv HV H5))
  | ((with_reducible apply Kad); exact HS2.out _ rfl; exact rfl; exact rfl
     (
      have hbn := Kac (w := W6) (.cells cv 48)
      have H7 := yh (And.intro (H6.out.1.below hbn) (And.intro (Kaa H6.out.2.1 hbn) (And.intro (Kak hbn (Array.getElem?_eq_some_iff.1 H6.out.2.2.1).1 H6.out.2.2.1) (H6.out.2.2.2.below hbn))))
      clear hbn HS2 H6
      generalize W6.alloc (.cells cv 48) = W7 at *
      generalize W6.heap.size = B6 at *
      have HN := yh (wk_callRN (W := W7))))
  | (go_at_call 37
     (
      refine HN.out.mono ?_; rintro e W8 ⟨rfl, hb⟩
      have H8 := yh (And.intro (H7.out.1.below hb) (And.intro (Kaa H7.out.2.1 hb) (And.intro (Kak hb (Array.getElem?_eq_some_iff.1 H7.out.2.2.1).1 H7.out.2.2.1) (H7.out.2.2.2.below hb))))
      clear hb HN H7))
  | (go_at_call 12; refine (num_err _ _).mono ?_; rintro e w' ⟨rfl, rfl⟩)
  | (go_at_call 14
     (
      refine (wk_bytes9 H8.out.1).mono ?_
      rintro e W9 ⟨rfl, h9⟩
      have hb := Kac (w := W8) (.cells wkL9 5)
      rw [h9] at hb
      have hc4 := Kab (o := 0) (Kak hb (Array.getElem?_eq_some_iff.1 H8.out.2.2.1).1 H8.out.2.2.1) rfl
      have H9 := yh (And.intro (Kaa H8.out.2.1 hb) (H8.out.2.2.2.below hb))
      clear hb h9 H8))
  | (go_at_call 14
     (
      refine (wk_bytes3 H9.out.2).mono ?_
      rintro e W10 ⟨rfl, h10⟩
      have hb := Kac (w := W9) (.cells wkL3 5)
      rw [h10] at hb
      have H10 := yh (Kaa H9.out.1 hb)
      clear hb h10 H9)))
 go_ret
 exact ⟨rfl, H10.out⟩
theorem Out.rd {w : World} {b : List UInt8} {err : Int} {e : Ending} {W' : World} (h : Out w b err e W') : ∃ p c, e = .returned (.tuple #[.slice p b.length c, .int .i64 err]) ∧ RdB W' (.slice p b.length c) b ∧ Below w.heap.size w W' := by
 obtain ⟨o, rfl, ho, hb⟩ := h
 obtain ⟨p, c, rfl, hr⟩ := own_rdB ho
 exact ⟨p, c, rfl, hr, hb⟩
def Lies (g : Nat) (T : TypeId) (x : Array Value) (W : World) : Prop := W.heap[g]? = some (.cells x T (0, 0))
theorem Lies.below {g : Nat} {T : TypeId} {x : Array Value} {W W' : World} (h : Lies g T x W) (b : Below W.heap.size W W') : Lies g T x W' := Kak b (Array.getElem?_eq_some_iff.1 h).1 h
theorem Lies.get {g : Nat} {x : Array Value} {W : World} (h : Lies g 25 x W) (hs : x.size = 4) : (loadVar 25 ⟨g, 0, none⟩).run Tryz.prog W = .ok (.agg x) W := StT.get Kbt hs h
theorem he2 (W : World) : (binOp .eql 3 (.int .i64 2) (.int .i64 0)).run Tryz.prog W = .ok (.bool false) W := by simp [go_sem]
theorem cbounds_any {w : World} (hE : Env w) : Calls Tryz.prog 6 #[] w fun e w' => e = .returned (.bool true) ∧ Below w.heap.size w w' := by
 obtain ⟨L1, L2, B1, B2, hD⟩ := drops_at (n := 65536) rfl
 obtain ⟨W1, cs, m1, m2, m3, m4⟩ := make_drops 65537 (by omega) w
 have HMK := yh (show (Instr.makeSlice 58 (.int .i64 65537) (.int .i64 65537)).run Tryz.prog w = .ok (.slice (some ⟨w.heap.size, 0, none⟩) 65537 65537) W1 from m1)
 have HD0 := yh (show DInv w 0 W1 from ⟨cs, m2, m3, m4⟩)
 have HE := yh hE
 clear m1 m2 m3 m4 hE
 go_enter Tryz.func6, Tryz.ntmps6
 go_wp2_with ((with_reducible apply op_make); exact HMK.out; exact rfl; exact rfl)
 go_loopw [2] (fun i W => ∃ j : Nat, j ≤ 65537 ∧ i = .int .i64 (j : Int) ∧ Hid (DInv w j W)) (fun i _ => 65537 - (intOf i).toNat)
 case atStart => exact ⟨0, Nat.zero_le _, rfl, HD0⟩
 case round =>
  clear HMK HD0
  obtain ⟨j, hj, rfl, HI⟩ := hrel
  by_cases hlt : j < 65537
  ·have hji : (j : Int) < 65537 := by omega
   have hst := HI.out.step hlt
   have HST := yh hst.1
   have HN := yh hst.2
   have hlt1 : j + 1 ≤ 65537 := hlt
   clear hst HI
   go_wp2_with ((with_reducible apply Kad); exact HST.out; exact rfl; exact rfl)
   go_roundw
   case rel => exact ⟨j + 1, hlt1, by go_num, HN⟩
   case measure => simp [intOf]; omega
  ·obtain rfl : j = 65537 := by omega
   obtain ⟨cs, k1, k2, k3⟩ := HI.out
   have hEw := HE.out.b k3
   have g1 := drops_rd k1 k2 hD.a1 (by rw [hD.n1]; omega) (by omega)
   have g2 := drops_rd k1 k2 hD.a2 (by rw [hD.n2]; exact Nat.le_refl _) (by omega)
   have hc1 := Kc7 hEw g1 hD.r1 hD.t1
   rw [hD.n1, hD.o1, hD.e1] at hc1
   have hc2 := fun W (g : Below wr.heap.size wr W) => Kc7 (hEw.b g) (g2.below (fun h => h.below g) g) hD.r2 hD.t2
   rw [hD.n2, hD.o2, hD.e2] at hc2
   have hsl : ∀ W' : World, (Instr.sliceAt 58 (.slice (some ⟨w.heap.size, 0, none⟩) 65537 65537) none (some (.int .i64 65536)) none).run Tryz.prog W' = .ok (.slice (some ⟨w.heap.size, 0, none⟩) 65536 65537) W' := fun W' => by
    have h := (Kbn Tryz.underlying58 _ _ _ _ W').trans (Kd7 (P := Tryz.prog) Tryz.underlying58 Tryz.sizeOf74 (some ⟨w.heap.size, 0, none⟩) 65537 65537 none (some 65536) 0 65536 (fun i hi => by cases hi) (fun _ => rfl) (fun i hi => by cases hi; rfl) (fun h => by cases h) (by omega) (by omega) W')
    simpa [Ka9] using h
   have HC1 := yh hc1
   have HC2 := yh hc2
   have HSL := yh hsl
   have HR1 := yh (fun W (g : Below wr.heap.size wr W) (p : Option Addr) (c : Nat) (hd : RdB W (.slice p B1.length c) B1) => (show Calls Tryz.prog 30 #[.slice p B1.length c] W (GotC W (some L1)) from hD.w1 ▸ readPub_C (hEw.b g) hd (by rw [hD.b1]; omega)))
   have HR2 := yh (fun W (g : Below wr.heap.size wr W) (p : Option Addr) (c : Nat) (hd : RdB W (.slice p B2.length c) B2) => (show Calls Tryz.prog 30 #[.slice p B2.length c] W (GotC W none) from hD.w2 ▸ readPub_C (hEw.b g) hd (by rw [hD.l2]; omega)))
   have HCUR := yh (Below.refl wr.heap.size wr)
   have HEW := yh hEw
   have HBW := yh k3
   have HDD := yh hD
   have zb1 : (B1.length : Int) = 131075 := by rw [hD.b1]; rfl
   have hmin : min (131075 : Int) 3 = 3 := by decide
   have zl1 : (L1.length : Int) = 65536 := by rw [hD.n1]; rfl
   clear k1 k2 k3 hEw g1 g2 hc1 hc2 hsl hD HI
   go_wp2_with (first
    | ((with_reducible apply op_slice); exact HSL.out _; exact rfl; exact rfl; exact rfl; exact rfl; clear HSL)
    | (go_at_call 27
       first
        | (refine HC1.out.mono ?_
           (
            rintro e W3 ho
            obtain ⟨p1, c1, rfl, hd1, hb3⟩ := ho.rd
            replace HCUR := yh (Kaa HCUR.out hb3)
            have HD1 := yh hd1
            clear HC1 ho hd1 hb3))
        | (refine (HC2.out _ HCUR.out).mono ?_
           (
            rintro e W4 ho
            obtain ⟨p2, c2, rfl, hd2, hb4⟩ := ho.rd
            replace HCUR := yh (Kaa HCUR.out hb4)
            replace HD1 := yh (HD1.out.below hb4)
            clear HC2 ho hd2 hb4)))
    | (go_at_call 30
       first
        | (refine (HR1.out _ HCUR.out _ _ HD1.out).mono ?_
           (
            rintro e W5 ⟨v5, rfl, ho5, hb5⟩
            obtain ⟨pk, ck, rfl⟩ := ho5.slice
            replace HCUR := yh (Kaa HCUR.out hb5)
            have hd1 := HD1.out.below hb5
            obtain ⟨p3, c3, v3, W6, s1, a1, hB6⟩ := over_one hd1 (by rw [HDD.out.b1]; omega) (by rw [HDD.out.b1]; omega)
            obtain ⟨p4, c4, W7, a2, hB7⟩ := buf_more hB6 (m := [3, 0]) (cs := #[.int .u8 3, .int .u8 0]) rfl (by rw [List.length_append, List.length_drop, HDD.out.b1]; simp) (by simp)
            rw [HDD.out.b2] at a2 hB7
            have HS1 := yh s1
            have HA1 := yh a1
            have HA2 := yh a2
            have HB7 := yh hB7
            clear hd1 s1 a1 hB6 a2 hB7 ho5 hb5 HR1 HD1))
        | (refine (HR2.out _ (Kaa HCUR.out HB7.out.b) _ _ HB7.out.rd).mono ?_
           (
            rintro e W8 ⟨v8, rfl, ho8, hb8⟩
            obtain ⟨pl, cl, rfl⟩ := ho8.slice
            replace HCUR := yh (Kaa HCUR.out (Kaa HB7.out.b hb8))
            clear ho8 hb8 HR2 HB7)))
    | ((with_reducible apply op_slice); exact HS1.out _; exact rfl; exact rfl; exact rfl; exact rfl; clear HS1)
    | ((with_reducible apply Kbc); exact HA1.out; exact rfl; exact rfl; clear HA1)
    | ((with_reducible apply Kbc); exact HA2.out; exact rfl; exact rfl; clear HA2))
   go_loopw [12, 13] (fun o i W => ∃ m : Nat, m ≤ 63 ∧ i = .int .i64 ((m : Int) + 1) ∧ Hid (Buf W8 W o (nestB m))) (fun _ i _ => 64 - (intOf i).toNat)
   case atStart => exact ⟨0, Nat.zero_le _, rfl, yh (buf_nil _)⟩
   case round =>
    obtain ⟨m, hm, rfl, HI2⟩ := hrel
    by_cases hlt2 : m < 63
    ·have hmi : (m : Int) + 1 < 64 := by omega
     have hlt3 : m + 1 ≤ 63 := hlt2
     obtain ⟨v9, W9, a9, hB9⟩ := buf_add HI2.out (m := [4, 1]) (cs := #[.int .u8 4, .int .u8 1]) rfl (by rw [nestB_len]; omega) (by simp)
     have HA9 := yh a9
     have HB9 := yh (show Buf W8 W9 v9 (nestB (m + 1)) from hB9)
     obtain ⟨pv, cv, ev⟩ := HI2.out.shape
     clear a9 hB9 HI2
     subst ev
     go_wp2_with ((with_reducible apply Kbc); exact HA9.out; exact rfl; exact rfl; clear HA9)
     go_roundw
     case rel => exact ⟨m + 1, hlt3, by go_num, HB9⟩
     case measure => simp [intOf]; omega
    ·have hmi : ¬ (m : Int) + 1 < 64 := by omega
     have hm63 : m = 63 := by omega
     obtain ⟨pv, cv, ev⟩ := HI2.out.shape
     subst ev
     have HDP := yh HI2.out.rd
     have HNN := yh (nests_at hm63)
     replace HCUR := yh (Kaa HBW.out (Kaa HCUR.out HI2.out.b))
     clear HI2 hm63 hm
     generalize nestB m ++ [0] = E at *
     generalize [4, 1] ++ nestB m ++ [0] = F at *
     generalize nestB m = D at *
     obtain ⟨xv, hxv⟩ := HNN.out.v
     have hl1 := HNN.out.l1
     have hl2 := HNN.out.l2
     have hno := HNN.out.n
     have HV1 := yh (fun W (g : Below w.heap.size w W) (p : Option Addr) (c : Nat) (hd : RdB W (.slice p E.length c) E) => (show Calls Tryz.prog 23 #[.slice p E.length c] W (Got VOwn val0 W (some xv)) from hxv ▸ readPub_V (HE.out.b g) hd hl1))
     have HV2 := yh (fun W (g : Below w.heap.size w W) (p : Option Addr) (c : Nat) (hd : RdB W (.slice p F.length c) F) => (show Calls Tryz.prog 23 #[.slice p F.length c] W (Got VOwn val0 W none) from hno ▸ readPub_V (HE.out.b g) hd hl2))
     clear hxv hl1 hl2 hno
     have hput := put_three HDP.out (m := []) (cs := #[]) (E := E) rfl (by rw [HNN.out.d]; omega) (by simp) HNN.out.e
     obtain ⟨va1, Wa1, pa, ca, Wa2, ba1, ba2, hBa⟩ := hput
     have HPA := yh ba1
     have HQA := yh ba2
     have HBA := yh hBa
     clear ba1 ba2 hBa
     go_wp2_with (first
      | ((with_reducible apply Kbc); exact HPA.out; exact rfl; exact rfl; clear HPA)
      | ((with_reducible apply Kbc); exact HQA.out; exact rfl; exact rfl; clear HQA)
      | (go_at_call 23
         first
          | (refine (HV1.out _ (Kaa HCUR.out HBA.out.b) _ _ HBA.out.rd).mono ?_
             (
              rintro e W20 ⟨cs1, rfl, hcs1, hb20⟩
              have hb21 := Kaa HBA.out.b hb20
              replace HCUR := yh (Kaa HCUR.out hb21)
              replace HDP := yh (HDP.out.below hb21)
              have HS20 := yh (Kbo.fresh (P := Tryz.prog) (W := W20) (Kdj.size hcs1) (Kdj.ones hcs1))
              clear HV1 hcs1 hb20 hb21 HBA))
          | (refine (HV2.out _ (Kaa HCUR.out HBC.out.b) _ _ HBC.out.rd).mono ?_
             (
              rintro e W30 ⟨cs3, rfl, hcs3, hb30⟩
              have hb31 := Kaa HBC.out.b hb30
              replace HCUR := yh (Kaa HCUR.out hb31)
              have HS30 := yh (Kbo.fresh (P := Tryz.prog) (W := W30) (Kdj.size hcs3) (Kdj.ones hcs3))
              clear HV2 hcs3 hb30 hb31 HBC)))
      | ((with_reducible apply Kad); exact HS20.out _ rfl; exact rfl; exact rfl
         (
          have hbn := Kac (w := W20) (.cells cs1 48)
          replace HCUR := yh (Kaa HCUR.out hbn)
          try replace HDP := yh (HDP.out.below hbn)
          clear hbn HS20
          generalize W20.alloc (.cells cs1 48) = W21 at *
          obtain ⟨vc1, Wc1, pc, cc, Wc2, bc1, bc2, hBc⟩ := put_three HDP.out (m := [4, 1]) (cs := #[.int .u8 4, .int .u8 1]) (E := F) rfl (by rw [HNN.out.d]; omega) (by simp) HNN.out.f
          have HPC := yh bc1
          have HQC := yh bc2
          have HBC := yh hBc
          clear bc1 bc2 hBc))
      | ((with_reducible apply Kad); exact HS30.out _ rfl; exact rfl; exact rfl
         (
          have hbn := Kac (w := W30) (.cells cs3 48)
          replace HCUR := yh (Kaa HCUR.out hbn)
          try replace HDP := yh (HDP.out.below hbn)
          clear hbn HS30
          generalize W30.alloc (.cells cs3 48) = W31 at *))
      | ((with_reducible apply Kbc); exact HPC.out; exact rfl; exact rfl; clear HPC)
      | ((with_reducible apply Kbc); exact HQC.out; exact rfl; exact rfl; clear HQC)
      | (go_at_call 12; refine (num_err _ _).mono ?_; rintro e w' ⟨rfl, rfl⟩)
      | (go_at_call 10
         (
          refine (worksG_any (HE.out.b HCUR.out)).mono ?_
          rintro e W33 ⟨rfl, hb33⟩
          replace HCUR := yh (Kaa HCUR.out hb33)
          clear hb33)))
     go_ret
     exact ⟨rfl, HCUR.out⟩
end Go.Proofs.YthdfedfholmbmaaGreatDoor
