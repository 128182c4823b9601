/- ValueBounds: the law returns true. The listed tables of Go's library read as the program's text lays them. -/
import Derived.Test.YtnkaegdnjfpliaaGreatDoorGB
import Derived.Test.YtnkaegdnjfpliaaGreatDoorGE
import Derived.Test.YtnkaegdnjfpliaaGreatDoorGC
import Derived.Test.YtnkaegdnjfpliaaGreatDoorGD
import Derived.Test.YtnkaegdnjfpliaaGreatDoorGF
import Derived.Test.YtnkaegdnjfpliaaGreatDoorGA
import Derived.Laws.StructEq
import Derived.Deep.WholeRow
import Derived.Laws.MakeOwn
import Derived.Test.YtnkaegdnjfpliaaGreatDoorCards
import Derived.Test.YtnkaegdnjfpliaaGreatDoorTie
/-! The law's spoil: a value that was answered is written over. Its rows keep their shape, whatever lies where. -/
namespace Go.Proofs.YtnkaegdnjfpliaaGreatDoor
set_option linter.unusedSimpArgs false
set_option linter.unusedVariables false
open Go.RowKit

/-- What spoil may make of a cell: a number of a number, a text of a text. -/
def LikeV (a b : Option Value) : Prop := a = b ∨ (∃ s s', a = some (.string s) ∧ b = some (.string s')) ∨ (∃ n n', a = some (.int .i64 n) ∧ b = some (.int .i64 n'))
theorem LikeV.trans {a b c : Option Value} (h : LikeV a b) (g : LikeV b c) : LikeV a c := by
  rcases h with rfl | ⟨s, s', rfl, rfl⟩ | ⟨n, n', rfl, rfl⟩
  · exact g
  · rcases g with rfl | ⟨t, t', e, rfl⟩ | ⟨m, m', e, rfl⟩
    · exact .inr (.inl ⟨_, _, rfl, rfl⟩)
    · exact .inr (.inl ⟨_, _, rfl, rfl⟩)
    · cases e
  · rcases g with rfl | ⟨t, t', e, rfl⟩ | ⟨m, m', e, rfl⟩
    · exact .inr (.inr ⟨_, _, rfl, rfl⟩)
    · cases e
    · exact .inr (.inr ⟨_, _, rfl, rfl⟩)
theorem LikeV.str {a : Option Value} {s : ByteArray} (h : LikeV (some (.string s)) a) : ∃ s', a = some (.string s') := by
  rcases h with rfl | ⟨t, t', _, rfl⟩ | ⟨m, m', e, rfl⟩
  · exact ⟨_, rfl⟩
  · exact ⟨_, rfl⟩
  · cases e
theorem LikeV.num {a : Option Value} {n : Int} (h : LikeV (some (.int .i64 n)) a) : ∃ n', a = some (.int .i64 n') := by
  rcases h with rfl | ⟨t, t', e, rfl⟩ | ⟨m, m', _, rfl⟩
  · exact ⟨_, rfl⟩
  · cases e
  · exact ⟨_, rfl⟩
theorem LikeV.bool {a : Option Value} {b : Bool} (h : LikeV (some (.bool b)) a) : a = some (.bool b) := by
  rcases h with h | ⟨t, t', e, _⟩ | ⟨m, m', e, _⟩
  · exact h.symm
  · cases e
  · cases e
theorem LikeV.slice {a : Option Value} {p : Option Addr} {n c : Nat} (h : LikeV (some (.slice p n c)) a) : a = some (.slice p n c) := by
  rcases h with h | ⟨t, t', e, _⟩ | ⟨m, m', e, _⟩
  · exact h.symm
  · cases e
  · cases e
/-- Blocks of P may be spoilt, others stay. -/
structure Spoilt (P : Nat → Prop) (W W' : World) : Prop where
  touch : Touch P W W'
  like : ∀ b cs e, P b → W.heap[b]? = some (.cells cs e (0, 0)) → ∃ cs', W'.heap[b]? = some (.cells cs' e (0, 0)) ∧ ∀ i : Nat, LikeV cs[i]? cs'[i]?
theorem Spoilt.refl (P : Nat → Prop) (W : World) : Spoilt P W W := ⟨Touch.refl _ _, fun b cs e _ h => ⟨cs, h, fun _ => .inl rfl⟩⟩
theorem Spoilt.trans {P : Nat → Prop} {W W' W'' : World} (h : Spoilt P W W') (g : Spoilt P W' W'') : Spoilt P W W'' :=
  ⟨h.touch.trans g.touch, fun b cs e hp hb => by
    obtain ⟨cs', h1, h2⟩ := h.like b cs e hp hb
    obtain ⟨cs'', g1, g2⟩ := g.like b cs' e hp h1
    exact ⟨cs'', g1, fun i => (h2 i).trans (g2 i)⟩⟩
theorem Spoilt.of_below {P : Nat → Prop} {W W' : World} (h : Below W.heap.size W W') : Spoilt P W W' :=
  ⟨Touch.of_below h (fun b h1 h2 => absurd h1 (by omega)), fun b cs e _ hb => ⟨cs, belowBlk h (Array.getElem?_eq_some_iff.1 hb).1 hb, fun _ => .inl rfl⟩⟩
theorem Spoilt.set {P : Nat → Prop} {W : World} {g o : Nat} {cs : Array Value} {e : TypeId} {v : Value} (hP : P g) (hg : W.heap[g]? = some (.cells cs e (0, 0))) (hl : LikeV cs[o]? (some v)) : Spoilt P W (W.setCell ⟨g, o, none⟩ v) := by
  refine ⟨(Touch.refl _ _).setCell (.inl hP) _, fun b cs0 e0 hp hb => ?_⟩
  by_cases hbg : b = g
  · subst hbg
    rw [hg] at hb
    cases hb
    refine ⟨_, heap_setCell_same W b o cs e v hg, fun i => ?_⟩
    rw [Array.getElem?_setIfInBounds]
    by_cases hi : o = i
    · subst hi
      rw [if_pos rfl]
      by_cases hlt : o < cs.size
      · rw [if_pos hlt]; exact hl
      · rw [if_neg hlt]
        rw [Array.getElem?_eq_none (by omega)]; exact .inl rfl
    · rw [if_neg hi]; exact .inl rfl
  · exact ⟨cs0, (Below.heap_setCell W ⟨g, o, none⟩ v b hbg).trans hb, fun _ => .inl rfl⟩

/-- Keys' shape. -/
def KSh (w : World) (P : Nat → Prop) (vk : Value) (n : Nat) : Prop := (vk = .slice none 0 0 ∧ n = 0) ∨ ∃ g cap cs, vk = .slice (some ⟨g, 0, none⟩) n cap ∧ P g ∧ w.heap[g]? = some (.cells cs 9 (0, 0)) ∧ ∀ i, i < n → ∃ s, cs[i]? = some (.string s)
mutual
/-- A value's shape: its rows lie in blocks of P. -/
def VSh (w : World) (P : Nat → Prop) : V → Value → Value → Prop
  | .mk _ _ _ _ ks l, vk, vl => KSh w P vk ks.length ∧ ((vl = .slice none 0 0 ∧ l.length = 0) ∨ ∃ g cap cs, vl = .slice (some ⟨g, 0, none⟩) l.length cap ∧ P g ∧ w.heap[g]? = some (.cells cs 26 (0, 0)) ∧ VShs w P cs 0 l)
def VShs (w : World) (P : Nat → Prop) (cs : Array Value) : Nat → List V → Prop
  | _, [] => True
  | i, v :: r => (∃ k b n s vk vl, cs[i * 6]? = some (.int .i64 k) ∧ cs[i * 6 + 1]? = some (.bool b) ∧ cs[i * 6 + 2]? = some (.int .i64 n) ∧ cs[i * 6 + 3]? = some (.string s) ∧ cs[i * 6 + 4]? = some vk ∧ cs[i * 6 + 5]? = some vl ∧ VSh w P v vk vl) ∧ VShs w P cs (i + 1) r
end
theorem VSh_iff {w : World} {P : Nat → Prop} {k : Int} {b : Bool} {n : Int} {t : List UInt8} {ks : List (List UInt8)} {l : List V} {vk vl : Value} : VSh w P (.mk k b n t ks l) vk vl ↔
    KSh w P vk ks.length ∧ ((vl = .slice none 0 0 ∧ l.length = 0) ∨ ∃ g cap cs, vl = .slice (some ⟨g, 0, none⟩) l.length cap ∧ P g ∧ w.heap[g]? = some (.cells cs 26 (0, 0)) ∧ VShs w P cs 0 l) := by rw [VSh]
theorem VShs_iff {w : World} {P : Nat → Prop} {cs : Array Value} : ∀ {l : List V} {i : Nat}, VShs w P cs i l ↔ ∀ (j : Nat) (v : V), l[j]? = some v → ∃ k b n s vk vl, cs[(i + j) * 6]? = some (.int .i64 k) ∧ cs[(i + j) * 6 + 1]? = some (.bool b) ∧ cs[(i + j) * 6 + 2]? = some (.int .i64 n) ∧ cs[(i + j) * 6 + 3]? = some (.string s) ∧ cs[(i + j) * 6 + 4]? = some vk ∧ cs[(i + j) * 6 + 5]? = some vl ∧ VSh w P v vk vl := by
  intro l
  induction l with
  | nil => intro i; simp [VShs]
  | cons a r ih =>
    intro i
    rw [VShs, ih]
    constructor
    · rintro ⟨h1, h2⟩ j v hv
      cases j with
      | zero => simp only [List.getElem?_cons_zero, Option.some.injEq] at hv; subst hv; exact h1
      | succ j => have := h2 j v (by simpa using hv); rwa [show i + 1 + j = i + (j + 1) by omega] at this
    · intro h
      exact ⟨h 0 a rfl, fun j v hv => by have := h (j + 1) v (by simpa using hv); rwa [show i + (j + 1) = i + 1 + j by omega] at this⟩
theorem KSh.spoilt {w w' : World} {P : Nat → Prop} (g : Spoilt P w w') {vk : Value} {n : Nat} (h : KSh w P vk n) : KSh w' P vk n := by
  rcases h with h | ⟨b, cap, cs, h1, h2, h3, h4⟩
  · exact .inl h
  · obtain ⟨cs', g1, g2⟩ := g.like b cs _ h2 h3
    refine .inr ⟨b, cap, cs', h1, h2, g1, fun i hi => ?_⟩
    obtain ⟨s, hs⟩ := h4 i hi
    have := g2 i
    rw [hs] at this
    exact this.str
theorem KSh.slice {w : World} {P : Nat → Prop} {vk : Value} {n : Nat} (h : KSh w P vk n) : ∃ p c, vk = .slice p n c := by
  rcases h with ⟨rfl, rfl⟩ | ⟨b, cap, cs, rfl, _⟩
  · exact ⟨_, _, rfl⟩
  · exact ⟨_, _, rfl⟩
theorem VSh.slices {w : World} {P : Nat → Prop} {v : V} {vk vl : Value} (h : VSh w P v vk vl) : (∃ p c, vk = .slice p v.keys.length c) ∧ ∃ p c, vl = .slice p v.list.length c := by
  cases v with
  | mk k b n t ks l =>
    obtain ⟨h1, h2⟩ := VSh_iff.1 h
    refine ⟨h1.slice, ?_⟩
    rcases h2 with ⟨rfl, e⟩ | ⟨g, cap, cs, rfl, _⟩
    · exact ⟨none, 0, by show _ = Value.slice none l.length 0; rw [e]⟩
    · exact ⟨_, _, rfl⟩
theorem VSh.spoilt {w w' : World} {P : Nat → Prop} (g : Spoilt P w w') : ∀ {v : V} {vk vl : Value}, VSh w P v vk vl → VSh w' P v vk vl := by
  intro v
  refine V.ind (P := fun v => ∀ {vk vl : Value}, VSh w P v vk vl → VSh w' P v vk vl) (fun k b n t ks l ih vk vl h => ?_) v
  obtain ⟨h1, h2⟩ := VSh_iff.1 h
  refine VSh_iff.2 ⟨h1.spoilt g, ?_⟩
  rcases h2 with h2 | ⟨b, cap, cs, e, hp, hb, hs⟩
  · exact .inl h2
  · obtain ⟨cs', g1, g2⟩ := g.like b cs _ hp hb
    refine .inr ⟨b, cap, cs', e, hp, g1, VShs_iff.2 fun j v hv => ?_⟩
    obtain ⟨k, bb, n, s, vk1, vl1, q0, q1, q2, q3, q4, q5, hv1⟩ := VShs_iff.1 hs j v hv
    obtain ⟨⟨p4, c4, e4⟩, ⟨p5, c5, e5⟩⟩ := hv1.slices
    subst e4 e5
    have l0 := g2 ((0 + j) * 6); rw [q0] at l0
    have l1 := g2 ((0 + j) * 6 + 1); rw [q1] at l1
    have l2 := g2 ((0 + j) * 6 + 2); rw [q2] at l2
    have l3 := g2 ((0 + j) * 6 + 3); rw [q3] at l3
    have l4 := g2 ((0 + j) * 6 + 4); rw [q4] at l4
    have l5 := g2 ((0 + j) * 6 + 5); rw [q5] at l5
    obtain ⟨k', e0⟩ := l0.num
    obtain ⟨n', e2⟩ := l2.num
    obtain ⟨s', e3⟩ := l3.str
    exact ⟨k', bb, n', s', _, _, e0, l1.bool, e2, e3, l4.slice, l5.slice, ih v (List.mem_of_getElem? hv) hv1⟩
theorem VOwns_sixes {w : World} {P : Nat → Prop} : ∀ {l : List V} {xs : List (Array Value)}, VOwns w P l xs → ∀ x ∈ xs, x.size = 6 := by
  intro l
  induction l with
  | nil => intro xs h; rw [VOwns] at h; subst h; simp
  | cons a r ih =>
    intro xs h x hx
    obtain ⟨y, q, rfl, g1, g2⟩ := h
    rcases List.mem_cons.1 hx with rfl | hx
    · exact g1.size6
    · exact ih g2 x hx
/-- What was copied has a shape. -/
theorem VOwn.shape {w : World} {P : Nat → Prop} : ∀ {v : V} {x : Array Value}, VOwn w P v x → ∃ k b n s vk vl, x = #[.int .i64 k, .bool b, .int .i64 n, .string s, vk, vl] ∧ VSh w P v vk vl := by
  intro v
  refine V.ind (P := fun v => ∀ {x : Array Value}, VOwn w P v x → ∃ k b n s vk vl, x = #[.int .i64 k, .bool b, .int .i64 n, .string s, vk, vl] ∧ VSh w P v vk vl) (fun k b n t ks l ih x h => ?_) v
  obtain ⟨vk, vl, rfl, h1, xs, h2, h3⟩ := VOwn_iff.1 h
  refine ⟨k, b, n, strB t, vk, vl, rfl, VSh_iff.2 ⟨?_, ?_⟩⟩
  · have hc := fun (g : Nat) (e : vk.ownBlock = some g) => h1.1.cells (g := g) e
    rcases h1.1.2 with ⟨e1, e2⟩ | ⟨g, cap, cur, rfl, _, hg, _⟩
    · exact .inl ⟨e1, e2⟩
    · refine .inr ⟨g, cap, cur, rfl, h1.2 g rfl, hg, fun i hi => ?_⟩
      have := hc g rfl i (strV ks[i]) (by rw [List.getElem?_map, List.getElem?_eq_getElem hi]; rfl)
      rw [addr_add, Nat.zero_add, cell_of_row w g i cur _ _ hg] at this
      exact ⟨_, this⟩
  · have hc := fun (g : Nat) (e : vl.ownBlock = some g) => h2.1.cells (g := g) e
    have h6 := VOwns_sixes h3
    rcases h2.1.2 with ⟨e1, e2⟩ | ⟨g, cap, cur, rfl, _, hg, _⟩
    · exact .inl ⟨e1, e2⟩
    · refine .inr ⟨g, cap, cur, rfl, h2.2 g rfl, hg, VShs_iff.2 fun j v hv => ?_⟩
      obtain ⟨y, hy, hown⟩ := VOwns_get h3 j v hv
      obtain ⟨k', b', n', s', vk', vl', rfl, hsh⟩ := ih v (List.mem_of_getElem? hv) hown
      have cell : ∀ i u, i < 6 → (#[Value.int .i64 k', .bool b', .int .i64 n', .string s', vk', vl'] : Array Value)[i]? = some u → cur[(0 + j) * 6 + i]? = some u := by
        intro i u hi hu
        have := hc g rfl (j * 6 + i) u (by rw [flat_six h6 j _ hy i hi]; exact hu)
        rw [addr_add, Nat.zero_add, cell_of_row w g _ cur _ _ hg] at this
        rw [Nat.zero_add]; exact this
      exact ⟨k', b', n', s', vk', vl', cell 0 _ (by omega) rfl, cell 1 _ (by omega) rfl, cell 2 _ (by omega) rfl, cell 3 _ (by omega) rfl, cell 4 _ (by omega) rfl, cell 5 _ (by omega) rfl, hsh⟩
/-- What spoil keeps of its own. -/
structure SpI (P : Nat → Prop) (W0 : World) (X : Array Value) (W : World) : Prop where
  sp : Spoilt P W0 W
  box : W.heap[W0.heap.size]? = some (.cells X 26 (0, 0))
theorem SpI.next {P : Nat → Prop} {W0 W W' : World} {X : Array Value} (h : SpI P W0 X W) (hP : ∀ b, P b → b < W0.heap.size) (g : Spoilt P W W') : SpI P W0 X W' :=
  ⟨h.sp.trans g, g.touch.heap h.box (fun hp => by have := hP _ hp; omega)⟩
set_option maxRecDepth 100000 in
set_option maxHeartbeats 4000000 in
theorem spoil_any : ∀ (v : V), totV v ≤ 1000000 → ∀ (P : Nat → Prop) (W : World) (k : Int) (b : Bool) (n : Int) (s : ByteArray) (vk vl : Value), VSh W P v vk vl → (∀ q, P q → q < W.heap.size) →
    Calls Tryz.prog 40 #[.agg #[.int .i64 k, .bool b, .int .i64 n, .string s, vk, vl]] W fun e w' => e = .returned (.tuple #[]) ∧ Spoilt P W w' := by
  refine V.ind fun kv bv nv tv ks l ih => ?_
  intro htot P W k b n s vk vl hsh hP
  rw [totV_mk] at htot
  have hlen := totVs_length l
  obtain ⟨hk, hl⟩ := VSh_iff.1 hsh
  obtain ⟨⟨pk, ck, rfl⟩, ⟨pl, cl, rfl⟩⟩ := hsh.slices
  have z1 : (ks.length : Int) ≤ 1000000 := by omega
  have z2 : (l.length : Int) ≤ 1000000 := by omega
  have hI : SpI P W #[.int .i64 k, .bool b, .int .i64 n, .string s, .slice pk ks.length ck, .slice pl l.length cl] (W.alloc (.cells #[.int .i64 k, .bool b, .int .i64 n, .string s, .slice pk ks.length ck, .slice pl l.length cl] 26)) := ⟨Spoilt.of_below (below_new _), heap_alloc_new _ _⟩
  have HK := Lib.hid hk
  have HL := Lib.hid hl
  have HP := Lib.hid hP
  have HC := Lib.hid (fun (v : V) (hv : v ∈ l) => ih v hv (by have := totVs_mem hv; omega))
  have HI := Lib.hid hI
  clear ih hsh hk hl hP hI htot hlen
  simp only [V.keys, V.list] at *
  go_enter Tryz.func40, Tryz.ntmps40
  go_wp2
  go_loopw [2] (fun i wr => ∃ j : Nat, j ≤ ks.length ∧ i = .int .i64 (j : Int) ∧ Hid (SpI P W #[.int .i64 k, .bool b, .int .i64 n, .string s, .slice pk ks.length ck, .slice pl l.length cl] wr)) (fun i _ => ks.length - (intOf i).toNat)
  case atStart => exact ⟨0, Nat.zero_le _, rfl, HI⟩
  case round =>
    clear HI
    obtain ⟨j, hj, rfl, HI⟩ := hrel
    have p4 := cellOf (o := 4) HI.out.box rfl; have p5 := cellOf (o := 5) HI.out.box rfl
    by_cases hlt : j < ks.length
    · have hlt1 : j + 1 ≤ ks.length := hlt
      rcases HK.out.spoilt HI.out.sp with ⟨_, e0⟩ | ⟨g, cap, cs, e, hPg, hg, hcell⟩
      · omega
      · cases e
        obtain ⟨s1, hs1⟩ := hcell j hlt
        have q0 := cellOf (o := j) hg hs1
        have f0 := freeOf (o := j) hg
        have HN := Lib.hid (HI.out.next HP.out (Spoilt.set (o := j) (v := .string ⟨#[63]⟩) hPg hg (by rw [hs1]; exact .inr (.inl ⟨_, _, rfl, rfl⟩))))
        clear hg hPg hs1 hcell HI
        go_wp2
        go_roundw
        case rel => exact ⟨j + 1, hlt1, by go_num, HN⟩
        case measure => simp [intOf]; omega
    · obtain rfl : j = ks.length := by omega
      have HI0 := HI
      go_wp2
      go_loopw [3] (fun i wr => ∃ j : Nat, j ≤ l.length ∧ i = .int .i64 (j : Int) ∧ Hid (SpI P W #[.int .i64 k, .bool b, .int .i64 n, .string s, .slice pk ks.length ck, .slice pl l.length cl] wr)) (fun i _ => l.length - (intOf i).toNat)
      case atStart => exact ⟨0, Nat.zero_le _, rfl, HI0⟩
      case round =>
        clear HI0 HI p4 p5
        obtain ⟨j, hj, rfl, HI⟩ := hrel
        have p4 := cellOf (o := 4) HI.out.box rfl; have p5 := cellOf (o := 5) HI.out.box rfl
        by_cases hlt : j < l.length
        · have hlt1 : j + 1 ≤ l.length := hlt
          rcases HL.out with ⟨_, e0⟩ | ⟨g, cap, cs0, e, hPg, hg0, hsh0⟩
          · omega
          · cases e
            obtain ⟨cs, hg, hlk⟩ := HI.out.sp.like g cs0 _ hPg hg0
            have hat : ∀ (W' : World), Spoilt P W W' → ∀ cs, W'.heap[g]? = some (.cells cs 26 (0, 0)) → ∃ k b n s vk vl, cs[j * 6]? = some (.int .i64 k) ∧ cs[j * 6 + 1]? = some (.bool b) ∧ cs[j * 6 + 2]? = some (.int .i64 n) ∧ cs[j * 6 + 3]? = some (.string s) ∧ cs[j * 6 + 4]? = some vk ∧ cs[j * 6 + 5]? = some vl ∧ VSh W' P l[j] vk vl := by
              intro W' hW cs hc
              obtain ⟨cs', h1, h2⟩ := hW.like g cs0 _ hPg hg0
              rw [hc] at h1; cases h1
              obtain ⟨k1, b1, n1, s1, vk1, vl1, q0, q1, q2, q3, q4, q5, hv1⟩ := VShs_iff.1 hsh0 j _ (List.getElem?_eq_getElem hlt)
              rw [Nat.zero_add] at q0 q1 q2 q3 q4 q5
              obtain ⟨⟨p4, c4, e4⟩, ⟨p5, c5, e5⟩⟩ := hv1.slices
              subst e4 e5
              have l0 := h2 (j * 6); rw [q0] at l0
              have l1 := h2 (j * 6 + 1); rw [q1] at l1
              have l2 := h2 (j * 6 + 2); rw [q2] at l2
              have l3 := h2 (j * 6 + 3); rw [q3] at l3
              have l4 := h2 (j * 6 + 4); rw [q4] at l4
              have l5 := h2 (j * 6 + 5); rw [q5] at l5
              obtain ⟨k', e0⟩ := l0.num
              obtain ⟨n', e2⟩ := l2.num
              obtain ⟨s', e3⟩ := l3.str
              exact ⟨k', _, n', s', _, _, e0, l1.bool, e2, e3, l4.slice, l5.slice, hv1.spoilt hW⟩
            obtain ⟨k1, b1, n1, s1, vk1, vl1, q0, q1, q2, q3, q4, q5, hv1⟩ := hat wr HI.out.sp cs hg
            have a0 := cellOf (o := j * 6) hg q0
            have a1 := cellOf (o := j * 6 + 1) hg q1
            have a2 := cellOf (o := j * 6 + 2) hg q2
            have a3 := cellOf (o := j * 6 + 3) hg q3
            have a4 := cellOf (o := j * 6 + 4) hg q4
            have a5 := cellOf (o := j * 6 + 5) hg q5
            have hcall := HC.out l[j] (List.getElem_mem hlt) P wr k1 b1 n1 s1 vk1 vl1 hv1 (fun q hq => Nat.lt_of_lt_of_le (HP.out q hq) HI.out.sp.touch.size)
            have HD := Lib.hid (And.intro hcall (And.intro hat (And.intro hPg hg0)))
            clear hcall hat hPg hg0 hsh0 hg hlk q0 q1 q2 q3 q4 q5 hv1
            go_wp2_with (first
              | (go_at_call 40
                 (
                  refine HD.out.1.mono ?_
                  rintro e w5 ⟨rfl, hsp⟩
                  have hI5 := HI.out.next HP.out hsp
                  obtain ⟨cs5, hg5, _⟩ := hI5.sp.like g cs0 _ HD.out.2.2.1 HD.out.2.2.2
                  obtain ⟨k5, b5, n5, s5, vk5, vl5, q0, _⟩ := HD.out.2.1 w5 hI5.sp cs5 hg5
                  have d5 := cellOf (o := 5) hI5.box rfl
                  have r0 := cellOf (o := j * 6) hg5 q0
                  have f0 := freeOf (o := j * 6) hg5
                  have HN := Lib.hid (hI5.next HP.out (Spoilt.set (o := j * 6) (v := .int .i64 77) HD.out.2.2.1 hg5 (by rw [q0]; exact .inr (.inr ⟨_, _, rfl, rfl⟩))))
                  clear hsp hI5 hg5 q0 HD HI)))
            go_roundw
            case rel => exact ⟨j + 1, hlt1, by go_num, HN⟩
            case measure => simp [intOf]; omega
        · obtain rfl : j = l.length := by omega
          go_wp2
          exact bodyPost_end (results_none rfl _ _ _) rfl ⟨rfl, HI.out.sp⟩
end Go.Proofs.YtnkaegdnjfpliaaGreatDoor

/-! value.Size. -/
namespace Go.Proofs.YtnkaegdnjfpliaaGreatDoor
set_option linter.unusedSimpArgs false
set_option linter.unusedVariables false
open Go.RowKit

theorem results_cell2 {P : Program} {fn : Func} {p q : Tmp} {ty : TypeId} (h : fn.results = #[.cell p ty, .cell q ty]) (tmps : Array Value) (w : World) (a1 a2 : Addr) (v1 v2 : Value)
    (hp : tmps.getD p undef = .pointer (some a1)) (hq : tmps.getD q undef = .pointer (some a2)) (l1 : (loadVar ty a1).run P w = .ok v1 w) (l2 : (loadVar ty a2).run P w = .ok v2 w) : (results fn tmps).run P w = .ok (.tuple #[v1, v2]) w := by
  have hp' : tmps[p]?.getD undef = .pointer (some a1) := by simpa using hp
  have hq' : tmps[q]?.getD undef = .pointer (some a2) := by simpa using hq
  simp [results, h, hp', hq', asAddr, l1, l2, Result.andThen]
/-! ### Plain -/
def maxD (l : List (Nat × V)) : Nat := (l.map (·.1)).foldr max 0
theorem maxD_append (a b : List (Nat × V)) : maxD (a ++ b) = max (maxD a) (maxD b) := by
  induction a with
  | nil => simp [maxD]
  | cons e r ih => unfold maxD at *; simp only [List.cons_append, List.map_cons, List.foldr_cons]; rw [ih]; omega
theorem maxD_snoc (a : List (Nat × V)) (e : Nat × V) : maxD (a ++ [e]) = max (maxD a) e.1 := by rw [maxD_append]; simp [maxD]
theorem maxD_any (l : List (Nat × V)) (K : Nat) : l.any (fun e => decide (K < e.1)) = decide (K < maxD l) := by
  induction l with
  | nil => simp [maxD]
  | cons e r ih =>
    rw [List.any_cons, ih, Bool.eq_iff_iff]
    simp only [Bool.or_eq_true, decide_eq_true_eq]
    unfold maxD
    simp only [List.map_cons, List.foldr_cons]
    omega
theorem maxD_pre (v : V) : maxD (preV 1 v) = deepV v := by
  have h := (sums_pre v 1).2.2.1
  have h1 : ∀ K, K < maxD (preV 1 v) ↔ K < deepV v := fun K => by
    have := h K
    rw [maxD_any, decide_eq_decide] at this
    omega
  rcases Nat.lt_trichotomy (maxD (preV 1 v)) (deepV v) with h2 | h2 | h2
  · have := (h1 _).2 h2; omega
  · exact h2
  · have := (h1 _).1 h2; omega
theorem len_pre : ∀ v : V, ∀ d, (preV d v).length = countV v := by
  refine V.ind fun k b n t ks l ih => ?_
  have hl : ∀ (m : List V), (∀ v ∈ m, v ∈ l) → ∀ d, (preVs d m).length = countVs m := by
    intro m
    induction m with
    | nil => intro _ d; rfl
    | cons a r ihr => intro hm d; rw [preVs, List.length_append, countVs, ih a (hm a (by simp)), ihr (fun v hv => hm v (by simp [hv]))]
  intro d
  rw [preV, List.length_cons, countV, hl l (fun _ h => h)]
  omega
theorem count_tot : ∀ v : V, countV v ≤ totV v := by
  refine V.ind fun k b n t ks l ih => ?_
  have hl : ∀ m : List V, (∀ v ∈ m, v ∈ l) → countVs m ≤ totVs m := by
    intro m
    induction m with
    | nil => intro _; simp [countVs]
    | cons a r ihr => intro hm; rw [countVs, totVs_cons]; have := ih a (hm a (by simp)); have := ihr (fun v hv => hm v (by simp [hv])); omega
  rw [countV, totV_mk]
  have := hl l (fun v hv => hv)
  omega
/-- What Size tells. -/
def sizeF (v : V) : Nat × Nat := if okV v then (countV v, deepV v) else (0, 0)
/-- Size's own blocks. -/
structure MidS (w : World) (B : Nat) (x : Array Value) (n m : Nat) (W : World) : Prop where
  below : Below w.heap.size w W
  box : W.heap[B]? = some (.cells x 26 (0, 0))
  cnt : W.heap[w.heap.size + 1]? = some (.cells #[.int .i64 (n : Int)] 3 (0, 0))
  dep : W.heap[w.heap.size + 2]? = some (.cells #[.int .i64 (m : Int)] 3 (0, 0))
theorem MidS.touch {w W W' : World} {B : Nat} {x : Array Value} {n m : Nat} {S : Nat → Prop} (h : MidS w B x n m W) (g : Touch S W W') (h1 : ∀ b, b ≤ w.heap.size + 2 → ¬ S b) (hB : ¬ S B) : MidS w B x n m W' :=
  ⟨g.below h.below (fun b hb => h1 b (by omega)) h.below.size, g.heap h.box hB, g.heap h.cnt (h1 _ (by omega)), g.heap h.dep (h1 _ (by omega))⟩
theorem MidS.setN {w W : World} {B : Nat} {x : Array Value} {n m : Nat} (h : MidS w B x n m W) (hB : w.heap.size + 3 ≤ B) (k : Nat) : MidS w B x k m (W.setCell ⟨w.heap.size + 1, 0, none⟩ (.int .i64 (k : Int))) := by
  have o : ∀ b, b ≠ w.heap.size + 1 → (W.setCell ⟨w.heap.size + 1, 0, none⟩ (.int .i64 (k : Int))).heap[b]? = W.heap[b]? := fun b hb => Below.heap_setCell _ _ _ _ hb
  exact ⟨belowSet h.below (by omega) _, (o _ (by omega)).trans h.box, box_set _ h.cnt, (o _ (by omega)).trans h.dep⟩
theorem MidS.setM {w W : World} {B : Nat} {x : Array Value} {n m : Nat} (h : MidS w B x n m W) (hB : w.heap.size + 3 ≤ B) (k : Nat) : MidS w B x n k (W.setCell ⟨w.heap.size + 2, 0, none⟩ (.int .i64 (k : Int))) := by
  have o : ∀ b, b ≠ w.heap.size + 2 → (W.setCell ⟨w.heap.size + 2, 0, none⟩ (.int .i64 (k : Int))).heap[b]? = W.heap[b]? := fun b hb => Below.heap_setCell _ _ _ _ hb
  exact ⟨belowSet h.below (by omega) _, (o _ (by omega)).trans h.box, (o _ (by omega)).trans h.cnt, box_set _ h.dep⟩
/-- Which blocks a round turns. -/
def SS (w : World) (b : Nat) : Prop := b = w.heap.size + 1 ∨ b = w.heap.size + 2
theorem four_blocks (w : World) (o0 o1 o2 o3 : Obj) : Below w.heap.size w ((((w.alloc o0).alloc o1).alloc o2).alloc o3) ∧ ((((w.alloc o0).alloc o1).alloc o2).alloc o3).heap[w.heap.size]? = some o0 ∧ ((((w.alloc o0).alloc o1).alloc o2).alloc o3).heap[w.heap.size + 1]? = some o1 ∧
    ((((w.alloc o0).alloc o1).alloc o2).alloc o3).heap[w.heap.size + 2]? = some o2 ∧ ((((w.alloc o0).alloc o1).alloc o2).alloc o3).heap[w.heap.size + 1 + 1 + 1]? = some o3 := by
  refine ⟨(((below_new _).alloc (by simp) _).alloc (by simp; omega) _).alloc (by simp; omega) _, ?_, ?_, ?_, ?_⟩ <;>
  · simp only [heap_get_alloc, World.size_alloc]; repeat (first | rfl | rw [if_pos (by omega)] | rw [if_neg (by omega)])
theorem fine_one {w W : World} {v : V} {c0 c1 c2 c3 c4 c5 : Value} (hE : Env w) (hb : Below w.heap.size w W) {g : Nat} (hg : W.heap[g]? = some (.cells #[c0, c1, c2, c3, c4, c5] 26 (0, 0))) (hv : VRd w v #[c0, c1, c2, c3, c4, c5]) (ht : totV v ≤ 1099511627776) :
    Calls Tryz.prog 62 #[.slice (some ⟨g, 0, none⟩) 1 1] W fun e w' => e = .returned (.bool (okV v)) ∧ Below W.heap.size W w' := by
  refine (fine_any (hE.b hb) (LRd.one hg (hv.below hb)) (by simp only [totVs]; omega)).mono ?_
  rintro e w' ⟨rfl, hb'⟩
  exact ⟨ret_bool (by simp [fineL]), hb'⟩
set_option maxRecDepth 100000 in
set_option maxHeartbeats 4000000 in
theorem sizePub_any {v : V} {w : World} {x : Array Value} (hE : Env w) (hx : VRd w v x) (ht : totV v ≤ 1099511627776) :
    Calls Tryz.prog 50 #[.agg x] w fun e w' => e = .returned (.tuple #[.int .i64 ((sizeF v).1 : Int), .int .i64 ((sizeF v).2 : Int)]) ∧ Below w.heap.size w w' := by
  have hx0 := hx
  obtain ⟨pk, ck, pl, cl, rfl, _, _, _⟩ := hx.open
  obtain ⟨hb0, g0, g1, g2, g3⟩ := four_blocks w (.cells #[.int .i64 v.kind, .bool v.b, .int .i64 v.n, .string (strB v.text), .slice pk v.keys.length ck, .slice pl v.list.length cl] 26) (.cells #[.int .i64 0] 3) (.cells #[.int .i64 0] 3) (.cells #[.int .i64 v.kind, .bool v.b, .int .i64 v.n, .string (strB v.text), .slice pk v.keys.length ck, .slice pl v.list.length cl] 26)
  have HF := Lib.hid (fine_one hE hb0 g3 hx0 ht)
  have HM := Lib.hid (And.intro hb0 (And.intro g0 (And.intro g1 g2)))
  clear hb0 g0 g1 g2 g3
  have hcl := count_tot v
  have hln := len_pre v 1
  have hmd := maxD_pre v
  have HX := Lib.hid hx0
  have HR := Lib.hid (show sizeF v = if okV v then (countV v, deepV v) else (0, 0) from rfl)
  generalize sizeF v = R at *
  clear hx hx0 hE
  cases hok : okV v with
  | false =>
    rw [hok] at HF HR
    have HR0 := Lib.hid (show R = (0, 0) from HR.out)
    clear hcl hln hmd HX hok ht HR
    go_enter Tryz.func50, Tryz.ntmps50
    go_wp2_with (first
      | (go_at_call 62
         (
          refine HF.out.mono ?_
          rintro e w2 ⟨rfl, hb⟩
          have h1 := belowBlk hb (Array.getElem?_eq_some_iff.1 HM.out.2.2.1).1 HM.out.2.2.1
          have h2 := belowBlk hb (Array.getElem?_eq_some_iff.1 HM.out.2.2.2).1 HM.out.2.2.2
          have c1 := cellOf (o := 0) h1 rfl
          have c2 := cellOf (o := 0) h2 rfl
          have f1 := freeOf (o := 0) h1
          have f2 := freeOf (o := 0) h2
          have HB := Lib.hid (And.intro (below_trans HM.out.1 hb) (And.intro h1 h2))
          clear hb h1 h2 HF HM)))
    have hb2 := belowSet (belowSet HB.out.1 (show w.heap.size ≤ w.heap.size + 1 by omega) (o := 0) (.int .i64 0)) (show w.heap.size ≤ w.heap.size + 2 by omega) (o := 0) (.int .i64 0)
    have k1 := box_set (k := 0) (.int .i64 0) HB.out.2.1
    have k2 := box_set (k := 0) (.int .i64 0) ((Below.heap_setCell w2 ⟨w.heap.size + 1, 0, none⟩ (.int .i64 0) (w.heap.size + 2) (by show w.heap.size + 2 ≠ w.heap.size + 1; omega)).trans HB.out.2.2)
    have k3 := (Below.heap_setCell (w2.setCell ⟨w.heap.size + 1, 0, none⟩ (.int .i64 0)) ⟨w.heap.size + 2, 0, none⟩ (.int .i64 0) (w.heap.size + 1) (by show w.heap.size + 1 ≠ w.heap.size + 2; omega)).trans k1
    exact bodyPost_ret (results_cell2 rfl _ _ ⟨w.heap.size + 1, 0, none⟩ ⟨w.heap.size + 2, 0, none⟩ _ _ rfl rfl (run_load1 Tryz.underlying3 rfl (cellOf (o := 0) k3 rfl)) (run_load1 Tryz.underlying3 rfl (cellOf (o := 0) k2 rfl))) rfl ⟨by rw [HR0.out]; rfl, hb2⟩
  | true =>
    rw [hok] at HF HR
    have HR0 := Lib.hid (show R = (countV v, deepV v) from HR.out)
    clear HR hok
    refine calls_of_wp_marks Tryz.func50 rfl ?_
    simp only [Tryz.ntmps50, List.size_toArray, List.length_cons, List.length_nil, Nat.reduceAdd, Nat.reduceSub, Array.replicate_succ, Array.replicate_zero, List.push_toArray, List.append_toArray, List.nil_append, List.cons_append]
    go_wp2_with (first
      | (go_at_call 62
         (
          refine HF.out.mono ?_
          rintro e w2 ⟨rfl, hb⟩
          have h0 := belowBlk hb (Array.getElem?_eq_some_iff.1 HM.out.2.1).1 HM.out.2.1
          have h1 := belowBlk hb (Array.getElem?_eq_some_iff.1 HM.out.2.2.1).1 HM.out.2.2.1
          have h2 := belowBlk hb (Array.getElem?_eq_some_iff.1 HM.out.2.2.2).1 HM.out.2.2.2
          have px0 := cellOf (o := 0) h0 rfl; have px1 := cellOf (o := 1) h0 rfl; have px2 := cellOf (o := 2) h0 rfl; have px3 := cellOf (o := 3) h0 rfl; have px4 := cellOf (o := 4) h0 rfl; have px5 := cellOf (o := 5) h0 rfl
          have HB := Lib.hid (And.intro (below_trans HM.out.1 hb) (And.intro h1 h2))
          clear hb h0 h1 h2 HF HM))
      | (go_at_call 85; refine (all_any _ _ _ _ _ _ _ rfl _).mono ?_; rintro e w' ⟨rfl, rfl⟩))
    have hb1 := below_new (w := w2) (.cells #[.int .i64 v.kind, .bool v.b, .int .i64 v.n, .string (strB v.text), .slice pk v.keys.length ck, .slice pl v.list.length cl] 26)
    have hM : MidS w w2.heap.size #[.int .i64 v.kind, .bool v.b, .int .i64 v.n, .string (strB v.text), .slice pk v.keys.length ck, .slice pl v.list.length cl] 0 0 (w2.alloc (.cells #[.int .i64 v.kind, .bool v.b, .int .i64 v.n, .string (strB v.text), .slice pk v.keys.length ck, .slice pl v.list.length cl] 26)) :=
      ⟨below_trans HB.out.1 hb1, heap_alloc_new _ _, belowBlk hb1 (Array.getElem?_eq_some_iff.1 HB.out.2.1).1 HB.out.2.1, belowBlk hb1 (Array.getElem?_eq_some_iff.1 HB.out.2.2).1 HB.out.2.2⟩
    have hBz : w.heap.size + 3 ≤ w2.heap.size := (Array.getElem?_eq_some_iff.1 HB.out.2.2).1
    have hs1 : (w2.alloc (.cells #[.int .i64 v.kind, .bool v.b, .int .i64 v.n, .string (strB v.text), .slice pk v.keys.length ck, .slice pl v.list.length cl] 26)).heap.size = w2.heap.size + 1 := by simp
    generalize w2.alloc (.cells #[.int .i64 v.kind, .bool v.b, .int .i64 v.n, .string (strB v.text), .slice pk v.keys.length ck, .slice pl v.list.length cl] 26) = W1 at *
    generalize w2.heap.size = B at *
    clear HB hb1 px0 px1 px2 px3 px4 px5
    refine wp_rangeA (gf := 112) (gfn := Tryz.f112) (lb := #[.pointer (some ⟨B, 0, none⟩)]) rfl Tryz.func112 rfl rfl
      (iter_all (w0 := w) B HX.out (by omega)) (fun _ => rfl)
      (fun pre W => MidS w B #[.int .i64 v.kind, .bool v.b, .int .i64 v.n, .string (strB v.text), .slice pk v.keys.length ck, .slice pl v.list.length cl] pre.length (maxD (pre.map dv)) W)
      (fun c W => False)
      (SS w) (fun b hb => by unfold SS at hb; omega) ?h0 ?hpre ?hkeep ?hput ?hputx ?hround ?hdone ?hstop
    case h0 =>
      intro W hB' hsz
      exact hM.touch (Touch.of_below hB' (S := fun b => W1.heap.size ≤ b) (fun b _ hb => hb)) (fun b hb => by omega) (by omega)
    case hpre => exact fun pre W h => ⟨h.below, h.box⟩
    case hkeep => exact fun pre W W' h hs hk => h.touch hk (fun b hb => by omega) (by omega)
    case hput =>
      intro pre W o h
      have hp : Touch (fun b => b = W1.heap.size + 1) W (W.putObj (W1.heap.size + 1) o) := (Touch.refl _ _).putObj (.inl (by exact rfl)) o
      exact h.touch hp (fun b hb => by omega) (by omega)
    case hputx => exact fun _ _ _ h => h
    case hstop => exact fun _ _ h => h.elim
    case hdone =>
      rintro xs W ⟨hok2, hall⟩ hI hD
      have hlx : xs.length = countV v := by rw [← hln, hall, List.length_map]
      rw [← hall, hmd, hlx] at hI
      have hI0 : MidS w B #[.int .i64 v.kind, .bool v.b, .int .i64 v.n, .string (strB v.text), .slice pk v.keys.length ck, .slice pl v.list.length cl] (countV v) (deepV v) W.drew := ⟨hI.below.drew, hI.box, hI.cnt, hI.dep⟩
      have hMid := Lib.hid (And.intro hI (And.intro hD (And.intro hs1 hBz)))
      clear hok2 hall hI hD hM hln hmd hlx hcl ht
      generalize countV v = n at *
      generalize deepV v = m at *
      go_wp2
      refine plain_region_draws (fun W => MidS w B #[.int .i64 v.kind, .bool v.b, .int .i64 v.n, .string (strB v.text), .slice pk v.keys.length ck, .slice pl v.list.length cl] n m W) (by kernel_rfl) hI0 (fun hU => ?_)
      refine take 0 18 (v := .int .i64 (n : Int)) rfl rfl (by kernel_rfl) (by kernel_rfl) (by kernel_rfl) rfl (fun W hW => exec_load rfl rfl (run_load1 (w := W) Tryz.underlying3 rfl (cellOf (o := 0) hW.cnt rfl))) (by assumption) ?_
      simp only [Act.put, List.setIfInBounds_toArray, List.set_cons_zero, List.set_cons_succ]
      refine take 1 19 (v := .int .i64 (m : Int)) rfl rfl (by kernel_rfl) (by kernel_rfl) (by kernel_rfl) rfl (fun W hW => exec_load rfl rfl (run_load1 (w := W) Tryz.underlying3 rfl (cellOf (o := 0) hW.dep rfl))) (by assumption) ?_
      simp only [Act.put, List.setIfInBounds_toArray, List.set_cons_zero, List.set_cons_succ]
      have hU1 := hU.setN hBz n
      refine onlySkip 2 rfl rfl (by kernel_rfl) rfl (exec_store rfl rfl rfl (put_n (cellOf (o := 0) hU.cnt rfl) (freeOf (o := 0) hU.cnt))) (.inr hU1) ?_
      refine onlySkip 3 rfl rfl (by kernel_rfl) rfl (exec_store rfl rfl rfl (put_n (cellOf (o := 0) hU1.dep rfl) (freeOf (o := 0) hU1.dep))) (.inl (by kernel_rfl)) ?_
      refine done (by kernel_rfl) ?_ _
      clear hI0 hU hU1 hs1 hBz
      go_wp2
      obtain ⟨hI1, hD1, hs1, hBz⟩ := hMid.out
      have hI : MidS w B #[.int .i64 v.kind, .bool v.b, .int .i64 v.n, .string (strB v.text), .slice pk v.keys.length ck, .slice pl v.list.length cl] n m W.drew := ⟨hI1.below.drew, hI1.box, hI1.cnt, hI1.dep⟩
      have hD : W.drew.heap[W1.heap.size]? = some (.deferred (some [])) := hD1
      generalize W.drew = W at *
      have hI2 := (hI.setN hBz n).setM hBz m
      have hD2 := (Below.heap_setCell (W.setCell ⟨w.heap.size + 1, 0, none⟩ (.int .i64 (n : Int))) ⟨w.heap.size + 2, 0, none⟩ (.int .i64 (m : Int)) W1.heap.size (by show W1.heap.size ≠ w.heap.size + 2; omega)).trans ((Below.heap_setCell W ⟨w.heap.size + 1, 0, none⟩ (.int .i64 (n : Int)) W1.heap.size (by show W1.heap.size ≠ w.heap.size + 1; omega)).trans hD)
      have hp : Touch (fun b => b = W1.heap.size) ((W.setCell ⟨w.heap.size + 1, 0, none⟩ (.int .i64 (n : Int))).setCell ⟨w.heap.size + 2, 0, none⟩ (.int .i64 (m : Int))) (((W.setCell ⟨w.heap.size + 1, 0, none⟩ (.int .i64 (n : Int))).setCell ⟨w.heap.size + 2, 0, none⟩ (.int .i64 (m : Int))).putObj W1.heap.size (.deferred none)) := (Touch.refl _ _).putObj (.inl (by exact rfl)) _
      have hI3 := hI2.touch hp (fun b hb => by omega) (by omega)
      refine leave_mark (v := .tuple #[.int .i64 (n : Int), .int .i64 (m : Int)]) hD2 ?_ ?_
      · exact results_cell2 rfl _ _ ⟨w.heap.size + 1, 0, none⟩ ⟨w.heap.size + 2, 0, none⟩ _ _ rfl rfl (run_load1 Tryz.underlying3 rfl (cellOf (o := 0) hI3.cnt rfl)) (run_load1 Tryz.underlying3 rfl (cellOf (o := 0) hI3.dep rfl))
      · exact ⟨by rw [HR0.out], hI3.below⟩
    case hround =>
      rintro r0 r' pre ⟨d, s1, x1⟩ W hok2 hI hsz hl
      have hv1 : VRd w s1 x1 := hok2.2 _ (List.mem_append_right _ (List.mem_singleton.2 rfl))
      obtain ⟨rest, hrest⟩ := hok2.1
      rw [List.map_append] at hrest
      have hlen : pre.length + 1 ≤ 1099511627776 := by
        have := congrArg List.length hrest
        rw [hln] at this
        simp only [List.length_append, List.length_map, List.length_cons, List.length_nil] at this
        omega
      have hdl : (pre ++ [((d, s1, x1) : Yd)]).length = pre.length + 1 := by simp
      have hdm : maxD ((pre ++ [((d, s1, x1) : Yd)]).map dv) = max (maxD (pre.map dv)) d := by rw [List.map_append]; exact maxD_snoc _ (d, s1)
      rw [hdl, hdm]
      obtain ⟨pk1, ck1, pl1, cl1, rfl, _, _, _⟩ := hv1.open
      clear hv1 hrest hok2 hM hln hmd hcl ht hdl hdm HX HR0
      generalize maxD (pre.map dv) = m at *
      generalize pre.length = n at *
      simp only [encY]
      refine round_region (by kernel_rfl) ?_
      go_wp2
      refine ⟨Touch.refl _ _, hl, fun w₂ hw2 => ?_⟩
      have hp : Touch (fun b => b = W1.heap.size + 1) W w₂ := by rw [hw2]; exact (Touch.refl _ _).putObj (.inl (by exact rfl)) _
      have hI2 := hI.touch hp (fun b hb => by omega) (by omega)
      have z1 : (n : Int) + 1 ≤ 1099511627776 := by omega
      clear hw2 hp hI hl hlen
      have c1 := cellOf (o := 0) hI2.cnt rfl
      have f1 := freeOf (o := 0) hI2.cnt
      have hI3 := hI2.setN hBz (n + 1)
      have hT3 : Touch (SS w) w₂ (w₂.setCell ⟨w.heap.size + 1, 0, none⟩ (.int .i64 ((n + 1 : Nat) : Int))) := (Touch.refl _ _).setCell (.inl (.inl rfl)) _
      rw [Int.natCast_add] at hI3 hT3
      have HI3 := Lib.hid (And.intro hI3 hT3)
      clear hI2 hI3 hT3
      refine wpIn_block ?_
      refine wpIn_seq_k (fun K2 hK2 => ?_)
      refine round_region (by kernel_rfl) ?_
      go_wp2
      refine hK2 _ _ ?_
      obtain ⟨hI3, hT3⟩ := HI3.out
      clear c1 f1 HI3
      generalize w₂.setCell ⟨w.heap.size + 1, 0, none⟩ (.int .i64 ((n : Int) + 1)) = w3 at *
      have c2 := cellOf (o := 0) hI3.dep rfl
      have f2 := freeOf (o := 0) hI3.dep
      have hI4 := hI3.setM hBz (max m d)
      have hT4 : Touch (SS w) w₂ (w3.setCell ⟨w.heap.size + 2, 0, none⟩ (.int .i64 ((max m d : Nat) : Int))) := hT3.setCell (.inl (.inr rfl)) _
      have HI4 := Lib.hid (And.intro hT4 hI4)
      clear hI3 hT3 hI4 hT4
      refine round_region (by kernel_rfl) ?_
      go_wp2_with (refine wpList_run rfl (exec_max (n := m) (m := d) rfl rfl rfl) ?_)
      exact HI4.out
end Go.Proofs.YtnkaegdnjfpliaaGreatDoor

/-! The document's Storable. Printed by gen_storr.py. -/
namespace Go.Proofs.YtnkaegdnjfpliaaGreatDoor
set_option linter.unusedSimpArgs false
set_option linter.unusedVariables false
open Go.RowKit

/-- A box, and two kinds of its list. -/
structure StoU (w : World) (X : Array Value) (g o q : Nat) (kj k0 : Int) (W : World) : Prop where
  one : OneB w W X
  kj : W.cell? ⟨g, q, none⟩ = some (.int .i64 kj)
  k0 : W.cell? ⟨g, o, none⟩ = some (.int .i64 k0)
/-- Kinds are the first one's so far. -/
def SameK (l : List V) (j : Nat) : Prop := ∀ i v u, i < j → l[i]? = some v → l[0]? = some u → v.kind = u.kind
theorem badB_eq (k k0 : Int) : badB k k0 = true ↔ k ≠ k0 ∨ k < 1 ∨ 3 < k := by unfold badB; simp [Bool.or_eq_true, or_assoc]
theorem storL_bad {l : List V} {i : Nat} {v u : V} (h : l[i]? = some v) (h0 : l[0]? = some u) (hk : v.kind ≠ u.kind) : storL l = false := by
  unfold storL
  rw [List.all_eq_false]
  refine ⟨v, List.mem_of_getElem? h, ?_⟩
  have e : (l.map V.kind).headD 0 = u.kind := by cases l with
    | nil => simp at h0
    | cons a r => simp only [List.getElem?_cons_zero, Option.some.injEq] at h0; subst h0; rfl
  rw [e, (badB_eq _ _).2 (.inl hk)]; simp
theorem storL_same {l : List V} {u : V} (h0 : l[0]? = some u) (hs : SameK l l.length) : storL l = (decide (1 ≤ u.kind) && decide (u.kind ≤ 3)) := by
  have e : (l.map V.kind).headD 0 = u.kind := by cases l with
    | nil => simp at h0
    | cons a r => simp only [List.getElem?_cons_zero, Option.some.injEq] at h0; subst h0; rfl
  have hall : ∀ x ∈ l, x.kind = u.kind := fun x hx => by
    obtain ⟨i, hi, rfl⟩ := List.getElem_of_mem hx
    exact hs i _ _ hi (List.getElem?_eq_getElem hi) h0
  unfold storL
  rw [e, Bool.eq_iff_iff, List.all_eq_true]
  simp only [Bool.and_eq_true, decide_eq_true_eq, Bool.not_eq_true']
  constructor
  · intro h
    have := h u (List.mem_of_getElem? h0)
    have hb : (u.kind ≠ u.kind ∨ u.kind < 1 ∨ 3 < u.kind) → False := fun hh => by rw [(badB_eq u.kind u.kind).2 hh] at this; cases this
    constructor
    · by_cases h1 : u.kind < 1
      · exact (hb (.inr (.inl h1))).elim
      · omega
    · by_cases h1 : 3 < u.kind
      · exact (hb (.inr (.inr h1))).elim
      · omega
  · rintro ⟨h1, h2⟩ x hx
    rw [hall x hx]
    cases hb : badB u.kind u.kind with
    | false => rfl
    | true => rcases (badB_eq _ _).1 hb with h | h | h <;> omega
theorem storL_one (v : V) : storL [v] = (decide (1 ≤ v.kind) && decide (v.kind ≤ 3)) := storL_same (u := v) rfl (fun i x u hi h h0 => by
  have : i = 0 := by simpa using hi
  subst this; rw [h] at h0; cases h0; rfl)
theorem kinds3 (k : Int) : ((k == 1) = true ∧ (decide (1 ≤ k) && decide (k ≤ 3)) = true) ∨ ((k == 1) = false ∧ (k == 2) = true ∧ (decide (1 ≤ k) && decide (k ≤ 3)) = true) ∨ ((k == 1) = false ∧ (k == 2) = false ∧ (k == 3) = true ∧ (decide (1 ≤ k) && decide (k ≤ 3)) = true) ∨ ((k == 1) = false ∧ (k == 2) = false ∧ (k == 3) = false ∧ (decide (1 ≤ k) && decide (k ≤ 3)) = false) := by
  by_cases h1 : k = 1
  · subst h1; exact .inl ⟨rfl, rfl⟩
  · by_cases h2 : k = 2
    · subst h2; exact .inr (.inl ⟨rfl, rfl, rfl⟩)
    · by_cases h3 : k = 3
      · subst h3; exact .inr (.inr (.inl ⟨rfl, rfl, rfl, rfl⟩))
      · refine .inr (.inr (.inr ⟨by simpa using h1, by simpa using h2, by simpa using h3, ?_⟩))
        rw [Bool.and_eq_false_iff, decide_eq_false_iff_not, decide_eq_false_iff_not]; omega
set_option maxRecDepth 100000 in
set_option maxHeartbeats 4000000 in
theorem storR_any {v : V} {w : World} {x : Array Value} (hx : VRd w v x) (ho : okV v = true) :
    Calls Tryz.prog 54 #[.agg x] w fun e w' => e = .returned (.bool (storB v)) ∧ Below w.heap.size w w' := by
  obtain ⟨pk, ck, pl, cl, rfl, htx, hk1, hl1⟩ := hx.open
  have hF := oneV_iff.1 (mayV_iff.1 (okV_may ho)).1
  have hls : v.kind ≠ 4 → v.kind ≠ 5 → v.list = [] := hF.list
  have hR : storB v = storL (if v.kind = 4 then v.list else [v]) := rfl
  have hbad : ∀ (i : Nat) (s u : V), v.list[i]? = some s → v.list[0]? = some u → s.kind ≠ u.kind → storB v = false := by
    intro i s u h h0 hne
    by_cases h4 : v.kind = 4
    · rw [hR, if_pos h4]; exact storL_bad h h0 hne
    · by_cases h5 : v.kind = 5
      · rw [hR, if_neg h4, storL_one, h5]; rfl
      · rw [hls h4 h5] at h; simp at h
  have hend : SameK v.list v.list.length → storB v = if v.kind = 4 then (match v.list[0]? with | some u => decide (1 ≤ u.kind) && decide (u.kind ≤ 3) | none => true) else (decide (1 ≤ v.kind) && decide (v.kind ≤ 3)) := by
    intro hs
    by_cases h4 : v.kind = 4
    · rw [hR, if_pos h4, if_pos h4]
      cases h0 : v.list[0]? with
      | none =>
        have : v.list = [] := by cases hv : v.list with
          | nil => rfl
          | cons a r => rw [hv] at h0; simp at h0
        rw [this]; rfl
      | some u => exact storL_same h0 hs
    · rw [hR, if_neg h4, if_neg h4, storL_one]
  generalize storB v = R at *
  have hT := OneB.start w #[.int .i64 v.kind, .bool v.b, .int .i64 v.n, .string (strB v.text), .slice pk v.keys.length ck, .slice pl v.list.length cl]
  have z1 : (v.list.length : Int) ≤ 140737488355328 := by have := hl1.1.2.1; omega
  have px0 := cellOf (o := 0) hT.1 rfl; have px5 := cellOf (o := 5) hT.1 rfl
  have HT := Lib.hid hT
  have HL := Lib.hid hl1
  have HB := Lib.hid hbad
  have HE := Lib.hid hend
  clear hx hk1 hl1 hT hbad hend hR hls hF ho
  go_enter Tryz.func54, Tryz.ntmps54
  go_wp2
  clear px0 px5
  go_loopw [3] (fun i W => ∃ j : Nat, j ≤ v.list.length ∧ i = .int .i64 (j : Int) ∧ Hid (SameK v.list j ∧ OneB w W #[.int .i64 v.kind, .bool v.b, .int .i64 v.n, .string (strB v.text), .slice pk v.keys.length ck, .slice pl v.list.length cl])) (fun i _ => v.list.length - (intOf i).toNat)
  case atStart => exact ⟨0, Nat.zero_le _, rfl, Lib.hid ⟨fun i _ _ hi => by omega, HT.out⟩⟩
  case round =>
    clear HT
    obtain ⟨j, hj, rfl, HJ⟩ := hrel
    have hT1 := HJ.out.2
    have px0 := cellOf (o := 0) hT1.1 rfl; have px5 := cellOf (o := 5) hT1.1 rfl
    by_cases hlt : j < v.list.length
    · have hlt1 : j + 1 ≤ v.list.length := hlt
      have hpos : 0 < v.list.length := by omega
      have hbd : Below w.heap.size w wr.drew := below_trans hT1.2 (Below.refl _ _).drew
      obtain ⟨g1, o1, pk1, ck1, pl1, cl1, rfl, ⟨a0, _⟩, _⟩ := (HL.out.below hbd).at hlt
      obtain ⟨g2, o2, pk2, ck2, pl2, cl2, e2, ⟨q0, _⟩, _⟩ := (HL.out.below hbd).at hpos
      cases e2
      have hsj : v.list[j]? = some v.list[j] := List.getElem?_eq_getElem hlt
      have hs0 : v.list[0]? = some v.list[0] := List.getElem?_eq_getElem hpos
      rw [Nat.zero_mul, Nat.add_zero] at q0
      have hstep : v.list[j].kind = v.list[0].kind → SameK v.list (j + 1) := fun e i s u hi h h0 => by
        by_cases hij : i = j
        · subst hij; rw [hsj] at h; rw [hs0] at h0; cases h; cases h0; exact e
        · exact HJ.out.1 i s u (by omega) h h0
      have hbad2 : v.list[j].kind ≠ v.list[0].kind → R = false := HB.out j _ _ hsj hs0
      generalize v.list[j].kind = kj at *
      generalize v.list[0].kind = k0 at *
      have hU0 : StoU w #[.int .i64 v.kind, .bool v.b, .int .i64 v.n, .string (strB v.text), .slice pk v.keys.length ck, .slice (some ⟨g1, o1, none⟩) v.list.length cl] g1 o1 (o1 + j * 6) kj k0 wr.drew := ⟨hT1.below (Below.refl _ _).drew, a0, q0⟩
      clear a0 q0 hsj hs0 hbd hT1
      by_cases e : kj = k0
      · have HS := Lib.hid (hstep e)
        have hne : ∀ W, (binOp .neq 22 (.int .i64 kj) (.int .i64 k0)).run Tryz.prog W = .ok (.bool false) W := fun W => by simp [go_sem, e]
        clear hstep hbad2 e HJ
        go_wp2
        refine plain_region_draws (fun W => StoU w #[.int .i64 v.kind, .bool v.b, .int .i64 v.n, .string (strB v.text), .slice pk v.keys.length ck, .slice (some ⟨g1, o1, none⟩) v.list.length cl] g1 o1 (o1 + j * 6) kj k0 W) (by kernel_rfl) hU0 (fun hU => ?_)
        refine take 0 12 (v := .pointer (some ⟨w.heap.size, 5, none⟩)) rfl rfl (by kernel_rfl) (by kernel_rfl) (by kernel_rfl) rfl (fun W hW => exec_fieldAddr rfl rfl (fa_value _ _ (by decide) W)) (by assumption) ?_
        simp only [Act.put, List.setIfInBounds_toArray, List.set_cons_zero, List.set_cons_succ]
        refine take 1 13 (v := .slice (some ⟨g1, o1, none⟩) v.list.length cl) rfl rfl (by kernel_rfl) (by kernel_rfl) (by kernel_rfl) rfl (fun W hW => exec_load rfl rfl (run_load1 (w := W) Tryz.underlying24 rfl (cellOf hW.one.1 rfl))) (by assumption) ?_
        simp only [Act.put, List.setIfInBounds_toArray, List.set_cons_zero, List.set_cons_succ]
        refine take 2 14 (v := .int .i64 (j : Int)) rfl rfl (by kernel_rfl) (by kernel_rfl) (by kernel_rfl) rfl (fun W hW => exec_move rfl rfl) (by assumption) ?_
        simp only [Act.put, List.setIfInBounds_toArray, List.set_cons_zero, List.set_cons_succ]
        refine take 3 15 (v := .pointer (some ⟨g1, o1 + j * 6, none⟩)) rfl rfl (by kernel_rfl) (by kernel_rfl) (by kernel_rfl) rfl (fun W hW => exec_indexAddr rfl rfl rfl (ia_vals _ _ _ _ _ hlt W)) (by assumption) ?_
        simp only [Act.put, List.setIfInBounds_toArray, List.set_cons_zero, List.set_cons_succ]
        refine take 4 16 (v := .pointer (some ⟨g1, o1 + j * 6, none⟩)) rfl rfl (by kernel_rfl) (by kernel_rfl) (by kernel_rfl) rfl (fun W hW => exec_fieldAddr rfl rfl (fa_first _ _ W)) (by assumption) ?_
        simp only [Act.put, List.setIfInBounds_toArray, List.set_cons_zero, List.set_cons_succ]
        refine take 5 17 (v := .int .i64 kj) rfl rfl (by kernel_rfl) (by kernel_rfl) (by kernel_rfl) rfl (fun W hW => exec_load rfl rfl (run_load1 (w := W) Tryz.underlying22 rfl hW.kj)) (by assumption) ?_
        simp only [Act.put, List.setIfInBounds_toArray, List.set_cons_zero, List.set_cons_succ]
        refine take 6 18 (v := .pointer (some ⟨w.heap.size, 5, none⟩)) rfl rfl (by kernel_rfl) (by kernel_rfl) (by kernel_rfl) rfl (fun W hW => exec_fieldAddr rfl rfl (fa_value _ _ (by decide) W)) (by assumption) ?_
        simp only [Act.put, List.setIfInBounds_toArray, List.set_cons_zero, List.set_cons_succ]
        refine take 7 19 (v := .slice (some ⟨g1, o1, none⟩) v.list.length cl) rfl rfl (by kernel_rfl) (by kernel_rfl) (by kernel_rfl) rfl (fun W hW => exec_load rfl rfl (run_load1 (w := W) Tryz.underlying24 rfl (cellOf hW.one.1 rfl))) (by assumption) ?_
        simp only [Act.put, List.setIfInBounds_toArray, List.set_cons_zero, List.set_cons_succ]
        refine take 8 20 (v := .pointer (some ⟨g1, o1, none⟩)) rfl rfl (by kernel_rfl) (by kernel_rfl) (by kernel_rfl) rfl (fun W hW => exec_indexAddr rfl rfl rfl (ia_first _ _ _ _ hpos W)) (by assumption) ?_
        simp only [Act.put, List.setIfInBounds_toArray, List.set_cons_zero, List.set_cons_succ]
        refine take 9 21 (v := .pointer (some ⟨g1, o1, none⟩)) rfl rfl (by kernel_rfl) (by kernel_rfl) (by kernel_rfl) rfl (fun W hW => exec_fieldAddr rfl rfl (fa_first _ _ W)) (by assumption) ?_
        simp only [Act.put, List.setIfInBounds_toArray, List.set_cons_zero, List.set_cons_succ]
        refine take 10 22 (v := .int .i64 k0) rfl rfl (by kernel_rfl) (by kernel_rfl) (by kernel_rfl) rfl (fun W hW => exec_load rfl rfl (run_load1 (w := W) Tryz.underlying22 rfl hW.k0)) (by assumption) ?_
        simp only [Act.put, List.setIfInBounds_toArray, List.set_cons_zero, List.set_cons_succ]
        refine take 11 23 (v := .bool false) rfl rfl (by kernel_rfl) (by kernel_rfl) (by kernel_rfl) rfl (fun W hW => exec_bini rfl rfl rfl (hne W)) (by assumption) ?_
        simp only [Act.put, List.setIfInBounds_toArray, List.set_cons_zero, List.set_cons_succ]
        refine done (by kernel_rfl) ?_ _
        have HT0 := Lib.hid (And.intro HS.out hU.one)
        clear hU hU0 hne HS px0 px5
        go_wp2
        go_roundw
        case rel => exact ⟨j + 1, by omega, by go_num, HT0⟩
        case measure => simp [intOf]; omega
      · have HR := Lib.hid (hbad2 e)
        have hne : ∀ W, (binOp .neq 22 (.int .i64 kj) (.int .i64 k0)).run Tryz.prog W = .ok (.bool true) W := fun W => by simp [go_sem, e]
        clear hstep hbad2 e HJ
        go_wp2
        refine plain_region_draws (fun W => StoU w #[.int .i64 v.kind, .bool v.b, .int .i64 v.n, .string (strB v.text), .slice pk v.keys.length ck, .slice (some ⟨g1, o1, none⟩) v.list.length cl] g1 o1 (o1 + j * 6) kj k0 W) (by kernel_rfl) hU0 (fun hU => ?_)
        refine take 0 12 (v := .pointer (some ⟨w.heap.size, 5, none⟩)) rfl rfl (by kernel_rfl) (by kernel_rfl) (by kernel_rfl) rfl (fun W hW => exec_fieldAddr rfl rfl (fa_value _ _ (by decide) W)) (by assumption) ?_
        simp only [Act.put, List.setIfInBounds_toArray, List.set_cons_zero, List.set_cons_succ]
        refine take 1 13 (v := .slice (some ⟨g1, o1, none⟩) v.list.length cl) rfl rfl (by kernel_rfl) (by kernel_rfl) (by kernel_rfl) rfl (fun W hW => exec_load rfl rfl (run_load1 (w := W) Tryz.underlying24 rfl (cellOf hW.one.1 rfl))) (by assumption) ?_
        simp only [Act.put, List.setIfInBounds_toArray, List.set_cons_zero, List.set_cons_succ]
        refine take 2 14 (v := .int .i64 (j : Int)) rfl rfl (by kernel_rfl) (by kernel_rfl) (by kernel_rfl) rfl (fun W hW => exec_move rfl rfl) (by assumption) ?_
        simp only [Act.put, List.setIfInBounds_toArray, List.set_cons_zero, List.set_cons_succ]
        refine take 3 15 (v := .pointer (some ⟨g1, o1 + j * 6, none⟩)) rfl rfl (by kernel_rfl) (by kernel_rfl) (by kernel_rfl) rfl (fun W hW => exec_indexAddr rfl rfl rfl (ia_vals _ _ _ _ _ hlt W)) (by assumption) ?_
        simp only [Act.put, List.setIfInBounds_toArray, List.set_cons_zero, List.set_cons_succ]
        refine take 4 16 (v := .pointer (some ⟨g1, o1 + j * 6, none⟩)) rfl rfl (by kernel_rfl) (by kernel_rfl) (by kernel_rfl) rfl (fun W hW => exec_fieldAddr rfl rfl (fa_first _ _ W)) (by assumption) ?_
        simp only [Act.put, List.setIfInBounds_toArray, List.set_cons_zero, List.set_cons_succ]
        refine take 5 17 (v := .int .i64 kj) rfl rfl (by kernel_rfl) (by kernel_rfl) (by kernel_rfl) rfl (fun W hW => exec_load rfl rfl (run_load1 (w := W) Tryz.underlying22 rfl hW.kj)) (by assumption) ?_
        simp only [Act.put, List.setIfInBounds_toArray, List.set_cons_zero, List.set_cons_succ]
        refine take 6 18 (v := .pointer (some ⟨w.heap.size, 5, none⟩)) rfl rfl (by kernel_rfl) (by kernel_rfl) (by kernel_rfl) rfl (fun W hW => exec_fieldAddr rfl rfl (fa_value _ _ (by decide) W)) (by assumption) ?_
        simp only [Act.put, List.setIfInBounds_toArray, List.set_cons_zero, List.set_cons_succ]
        refine take 7 19 (v := .slice (some ⟨g1, o1, none⟩) v.list.length cl) rfl rfl (by kernel_rfl) (by kernel_rfl) (by kernel_rfl) rfl (fun W hW => exec_load rfl rfl (run_load1 (w := W) Tryz.underlying24 rfl (cellOf hW.one.1 rfl))) (by assumption) ?_
        simp only [Act.put, List.setIfInBounds_toArray, List.set_cons_zero, List.set_cons_succ]
        refine take 8 20 (v := .pointer (some ⟨g1, o1, none⟩)) rfl rfl (by kernel_rfl) (by kernel_rfl) (by kernel_rfl) rfl (fun W hW => exec_indexAddr rfl rfl rfl (ia_first _ _ _ _ hpos W)) (by assumption) ?_
        simp only [Act.put, List.setIfInBounds_toArray, List.set_cons_zero, List.set_cons_succ]
        refine take 9 21 (v := .pointer (some ⟨g1, o1, none⟩)) rfl rfl (by kernel_rfl) (by kernel_rfl) (by kernel_rfl) rfl (fun W hW => exec_fieldAddr rfl rfl (fa_first _ _ W)) (by assumption) ?_
        simp only [Act.put, List.setIfInBounds_toArray, List.set_cons_zero, List.set_cons_succ]
        refine take 10 22 (v := .int .i64 k0) rfl rfl (by kernel_rfl) (by kernel_rfl) (by kernel_rfl) rfl (fun W hW => exec_load rfl rfl (run_load1 (w := W) Tryz.underlying22 rfl hW.k0)) (by assumption) ?_
        simp only [Act.put, List.setIfInBounds_toArray, List.set_cons_zero, List.set_cons_succ]
        refine take 11 23 (v := .bool true) rfl rfl (by kernel_rfl) (by kernel_rfl) (by kernel_rfl) rfl (fun W hW => exec_bini rfl rfl rfl (hne W)) (by assumption) ?_
        simp only [Act.put, List.setIfInBounds_toArray, List.set_cons_zero, List.set_cons_succ]
        refine done (by kernel_rfl) ?_ _
        have HF := Lib.hid hU.one.2
        clear hU hU0 hne px0 px5
        go_wp2
        go_ret
        exact ⟨ret_bool HR.out.symm, HF.out⟩
    · obtain rfl : j = v.list.length := by omega
      have HF := Lib.hid hT1.2
      have hE := HE.out HJ.out.1
      by_cases h4 : v.kind = 4
      · rw [if_pos h4] at hE
        have d4 : (v.kind == 4) = true := by simpa using h4
        by_cases hpos : 0 < v.list.length
        · obtain ⟨g2, o2, pk2, ck2, pl2, cl2, rfl, ⟨q0, _⟩, _⟩ := (HL.out.below hT1.2).at hpos
          rw [List.getElem?_eq_getElem hpos] at hE
          simp only at hE
          rw [Nat.zero_mul, Nat.add_zero] at q0
          have d5 : decide ((0 : Int) < (v.list.length : Int)) = true := by rw [decide_eq_true_iff]; omega
          have d6 : decide (0 < v.list.length) = true := by rw [decide_eq_true_iff]; omega
          generalize v.list[0].kind = k0 at *
          have hk := kinds3 k0
          generalize (decide (1 ≤ k0) && decide (k0 ≤ 3)) = B at *
          have HR := Lib.hid hE
          clear hE hT1 h4 HJ HE HB HL
          rcases hk with ⟨k1, hB⟩ | ⟨k1, k2, hB⟩ | ⟨k1, k2, k3, hB⟩ | ⟨k1, k2, k3, hB⟩
          all_goals
            have HB2 := Lib.hid (HR.out.trans hB)
            clear hB HR
            go_wp2
            go_ret
            exact ⟨ret_bool HB2.out.symm, HF.out⟩
        · have hnil : v.list = [] := List.eq_nil_of_length_eq_zero (by omega)
          have d5 : decide ((0 : Int) < (v.list.length : Int)) = false := by rw [decide_eq_false_iff_not]; omega
          have d6 : decide (0 < v.list.length) = false := by rw [decide_eq_false_iff_not]; omega
          have hE2 : R = true := by rw [hE, hnil]; rfl
          have HR := Lib.hid hE2
          clear hE hE2 hT1 h4 HJ HE HB HL hnil
          go_wp2
          go_ret
          exact ⟨ret_bool HR.out.symm, HF.out⟩
      · rw [if_neg h4] at hE
        have d4 : (v.kind == 4) = false := by simpa using h4
        generalize v.kind = k0 at *
        have hk := kinds3 k0
        generalize (decide (1 ≤ k0) && decide (k0 ≤ 3)) = B at *
        have HR := Lib.hid hE
        clear hE hT1 h4 HJ HE HB HL
        rcases hk with ⟨k1, hB⟩ | ⟨k1, k2, hB⟩ | ⟨k1, k2, k3, hB⟩ | ⟨k1, k2, k3, hB⟩
        all_goals
          have HB2 := Lib.hid (HR.out.trans hB)
          clear hB HR
          go_wp2
          go_ret
          exact ⟨ret_bool HB2.out.symm, HF.out⟩
end Go.Proofs.YtnkaegdnjfpliaaGreatDoor

/-! A box, a copy with something to spare, and a copy of that: what the law of checks keeps. -/
namespace Go.Proofs.YtnkaegdnjfpliaaGreatDoor
set_option linter.unusedSimpArgs false
set_option linter.unusedVariables false
open Go.RowKit

theorem run_one (x0 x1 x2 x3 x4 x5 : Value) (W : World) : (Instr.buildSlice 24 1 #[(0, .agg #[x0, x1, x2, x3, x4, x5])]).run Tryz.prog W =
    .ok (.slice (some ⟨W.heap.size, 0, none⟩) 1 1) (W.alloc (.cells #[x0, x1, x2, x3, x4, x5] 26)) := by simp [go_sem]
structure OneD (w : World) (X : Array Value) (a : V) (p : Nat) (P : Nat → Prop) (y : Array Value) (q : Nat) (Q : Nat → Prop) (z : Array Value) (W : World) : Prop where
  c : OneC w X a p P y W
  hq : W.heap[q]? = some (.cells z 26 (0, 0))
  so : VOwn W Q a z
  dis : ∀ b, Q b → p < b ∧ b < q ∧ b < W.heap.size ∧ w.heap.size < b
  pl : ∀ b, P b → b < p
theorem OneD.keep {w W W' : World} {X : Array Value} {a : V} {p : Nat} {P : Nat → Prop} {y : Array Value} {q : Nat} {Q : Nat → Prop} {z : Array Value} (h : OneD w X a p P y q Q z W) (g : Below W.heap.size W W') : OneD w X a p P y q Q z W' :=
  ⟨h.c.keep g, (g.block _ (Array.getElem?_eq_some_iff.1 h.hq).1).trans h.hq, h.so.below g, fun b hb => by have := h.dis b hb; have := g.size; omega, h.pl⟩
/-- The copy's copy is put into its box. -/
theorem OneD.made {w W0 W : World} {X : Array Value} {a : V} {p : Nat} {P : Nat → Prop} {y : Array Value} {x0 x1 x2 x3 x4 x5 : Value} (hC : OneC w X a p P y W0) (hpl : ∀ b, P b → b < p) (hb : Below W0.heap.size W0 W) (so : VOwn W (fun b => W0.heap.size ≤ b) a #[x0, x1, x2, x3, x4, x5]) (o1 : ∀ u ∈ [x0, x1, x2, x3, x4, x5], u.oneCell' = true) :
    ∃ W2, (storeVar 26 ⟨W.heap.size, 0, none⟩ (.agg #[x0, x1, x2, x3, x4, x5])).run Tryz.prog (W.alloc (.cells #[.int .i64 0, .bool false, .int .i64 0, .string ⟨#[]⟩, .slice none 0 0, .slice none 0 0] 26)) = .ok () W2 ∧ OneD w X a p P y W.heap.size (In W0.heap.size W.heap.size) #[x0, x1, x2, x3, x4, x5] W2 := by
  have hC1 := hC.keep hb
  have hp0 := (Array.getElem?_eq_some_iff.1 hC.hm).1
  have hw0 := (Array.getElem?_eq_some_iff.1 hC.one.1).1
  have hz0 := hb.size
  have s0 : VOwn W (In W0.heap.size W.heap.size) a #[x0, x1, x2, x3, x4, x5] := so.imp fun b hb hp => ⟨hp, hb⟩
  have hbn := below_new (w := W) (.cells #[.int .i64 0, .bool false, .int .i64 0, .string ⟨#[]⟩, .slice none 0 0, .slice none 0 0] 26)
  have hp := heap_alloc_new W (.cells #[.int .i64 0, .bool false, .int .i64 0, .string ⟨#[]⟩, .slice none 0 0, .slice none 0 0] 26)
  have hC2 := hC1.keep hbn
  have s1 := s0.below hbn
  have hz : W.heap.size ≤ (W.alloc (.cells #[.int .i64 0, .bool false, .int .i64 0, .string ⟨#[]⟩, .slice none 0 0, .slice none 0 0] 26)).heap.size := hbn.size
  generalize W.alloc (.cells #[.int .i64 0, .bool false, .int .i64 0, .string ⟨#[]⟩, .slice none 0 0, .slice none 0 0] 26) = W1 at *
  have hst := run_storeVar_row (P := Tryz.prog) W1 W.heap.size 26 26 _ #[x0, x1, x2, x3, x4, x5] hp (by kernel_rfl) rfl (by simpa using o1)
  have ho := fun (b : Nat) (h : b ≠ W.heap.size) => setRow_other W1 W.heap.size b #[x0, x1, x2, x3, x4, x5] h
  have hlt := (Array.getElem?_eq_some_iff.1 hp).1
  refine ⟨_, hst, ⟨hC2.one.row (by omega) _, (ho p (by omega)).trans hC2.hm, hC2.sm.keep fun b hb _ => ho b (by have := hpl b hb; omega)⟩, setRow_heap W1 _ _ _ _ _ hp, s1.keep fun b hb _ => ho b (by have := hb.2; omega), fun b hb => ?_, hpl⟩
  have h1 := hb.1
  have h2 := hb.2
  have h3 : (W1.setRow W.heap.size #[x0, x1, x2, x3, x4, x5]).heap.size = W1.heap.size := by simp
  omega
section
variable {w W : World} {X : Array Value} {a : V} {p : Nat} {P : Nat → Prop} {y : Array Value} {q : Nat} {Q : Nat → Prop} {z : Array Value}
theorem OneC.sizeP (h : OneC w X a p P y W) (hE : Env w) (ht : totV a ≤ 1000000) {n d : Nat} (hs : sizeF a = (n, d)) : Calls Tryz.prog 50 #[.agg y] W fun e w' => e = .returned (.tuple #[.int .i64 (n : Int), .int .i64 (d : Int)]) ∧ OneC w X a p P y w' :=
  (sizePub_any (hE.b h.one.2) (h.rm ht) (by omega)).mono fun _ _ h' => by rw [hs] at h'; exact ⟨h'.1, h.keep h'.2⟩
theorem OneD.sizeR (h : OneD w X a p P y q Q z W) (hv : VRd w a X) (ht : totV a ≤ 1000000) : Calls Tryz.prog 52 #[.agg X] W fun e w' => e = .returned (.tuple #[.int .i64 (countV a : Int), .int .i64 (deepV a : Int), .int .i64 (bytesV a : Int), .int .i64 (longV a : Int)]) ∧ OneD w X a p P y q Q z w' :=
  (sizeR_any a W X (by omega) (hv.below h.c.one.2)).mono fun _ _ h' => ⟨h'.1, h.keep h'.2⟩
theorem OneD.check (h : OneD w X a p P y q Q z W) (hE : Env w) (ht : totV a ≤ 1000000) {c : Int} (hc : checkV Lib.validD a = c) : Calls Tryz.prog 45 #[.agg y] W fun e w' => e = .returned (.int .i64 c) ∧ OneD w X a p P y q Q z w' :=
  (check_ok (hE.b h.c.one.2) (h.c.rm ht) (by omega)).mono fun _ _ h' => by rw [hc] at h'; exact ⟨h'.1, h.keep h'.2⟩
theorem OneD.checkR (h : OneD w X a p P y q Q z W) (hv : VRd w a X) (ht : totV a ≤ 1000000) {c : Int} (hc : checkV Lib.validD a = c) : Calls Tryz.prog 28 #[.agg X] W fun e w' => e = .returned (.int .i64 c) ∧ OneD w X a p P y q Q z w' :=
  (checkR_any (by omega) (hv.below h.c.one.2)).mono fun _ _ h' => by rw [hc] at h'; exact ⟨h'.1, h.keep h'.2⟩
theorem OneD.stor (h : OneD w X a p P y q Q z W) (hE : Env w) (ht : totV a ≤ 1000000) {s : Bool} (hs : (okV a && storB a) = s) : Calls Tryz.prog 53 #[.agg y] W fun e w' => e = .returned (.bool s) ∧ Below W.heap.size W w' :=
  (storable_any (hE.b h.c.one.2) (h.c.rm ht) (by omega)).mono fun _ _ h' => by rw [hs] at h'; exact h'
theorem OneD.storR (h : OneD w X a p P y q Q z W) (hv : VRd w a X) (ho : okV a = true) : Calls Tryz.prog 54 #[.agg X] W fun e w' => e = .returned (.bool (storB a)) ∧ OneD w X a p P y q Q z w' :=
  (storR_any (hv.below h.c.one.2) ho).mono fun _ _ h' => ⟨h'.1, h.keep h'.2⟩
theorem OneD.alike (h : OneD w X a p P y q Q z W) (hv : VRd w a X) (ht : totV a ≤ 1000000) : Calls Tryz.prog 39 #[.agg z, .agg X] W fun e w' => e = .returned (.bool true) ∧ OneD w X a p P y q Q z w' :=
  (alikeR_any a W z X (h.so.rd ht) (hv.below h.c.one.2)).mono fun _ _ h' => ⟨h'.1, h.keep h'.2⟩
theorem OneD.spoil (h : OneD w X a p P y q Q z W) (ht : totV a ≤ 1000000) : Calls Tryz.prog 40 #[.agg z] W fun e w' => e = .returned (.tuple #[]) ∧ OneC w X a p P y w' := by
  obtain ⟨k, b, n, s, vk, vl, rfl, hsh⟩ := h.so.shape
  refine (spoil_any a ht Q W k b n s vk vl hsh (fun q hq => (h.dis q hq).2.2.1)).mono fun e w' ⟨he, hs⟩ => ⟨he, ?_⟩
  exact ⟨⟨hs.touch.heap h.c.one.1 (fun hq => by have := h.dis _ hq; omega), hs.touch.below h.c.one.2 (fun b hb hq => by have := h.dis _ hq; omega) h.c.one.2.size⟩, hs.touch.heap h.c.hm (fun hq => by have := h.dis _ hq; omega), h.c.sm.keep fun b hb hlt => hs.touch.block b hlt (fun hq => by have := h.dis _ hq; have := h.pl _ hb; omega)⟩
/-- The law's fine of the value. -/
theorem fine1_in {w W : World} {x0 x1 x2 x3 x4 x5 : Value} {a : V} (hw : Below w.heap.size w W) {g : Nat} (hg : W.heap[g]? = some (.cells #[x0, x1, x2, x3, x4, x5] 26 (0, 0))) (ha : VRd w a #[x0, x1, x2, x3, x4, x5]) (ht : totV a ≤ 1000000) :
    Calls Tryz.prog 18 #[.slice (some ⟨g, 0, none⟩) 1 1] W fun e w' => e = .returned (.bool (okV a)) ∧ Below W.heap.size W w' := by
  refine (finel_any (LRd.one hg (ha.below hw)) (by simp only [totVs]; omega)).mono ?_
  rintro e w' ⟨rfl, hb'⟩
  exact ⟨ret_bool (by simp [fineL]), hb'⟩
end
end Go.Proofs.YtnkaegdnjfpliaaGreatDoor

/-! Maps whose keys are strings, as functions: what a lookup, a store do. Nothing of the program is named here. -/
namespace Go.Proofs.YtnkaegdnjfpliaaGreatDoor
set_option linter.unusedSimpArgs false
set_option linter.unusedVariables false
open Go.RowKit

/-- An entry's key, if it is a string. -/
def keyS (e : MapEntry) : Option (List UInt8) := match e.key with | .string s => some s.data.toList | _ => none
theorem keyS_of {e : MapEntry} {k : List UInt8} (h : e.key = .string (strB k)) : keyS e = some k := by simp [keyS, h, strB]

theorem strB_eqb (a b : List UInt8) : (strB a == strB b) = decide (a = b) := by
  rw [beq_toListBytes, strB_toList, strB_toList]
  rw [Bool.eq_iff_iff, beq_iff_eq, decide_eq_true_iff]
/-- The value under a key, in a map's entries. -/
def getE (es : List MapEntry) (k : List UInt8) : Option Value :=
  match es with
  | [] => none
  | e :: r => if keyS e = some k then some e.val else getE r k

def keysOf (es : List MapEntry) : List (List UInt8) := es.filterMap keyS

/-- The entries of a map with string keys: each key once, each birth once. -/
structure GoodE (es : List MapEntry) (clk : Nat) : Prop where
  int : ∀ e ∈ es, ∃ k, e.key = .string (strB k)
  keys : (keysOf es).Nodup
  born : (es.map (·.born)).Nodup
  clock : ∀ e ∈ es, e.born < clk

/-- Block b of w is a map with string keys, which holds m. -/
def StrMap (w : World) (b : Nat) (m : List UInt8 → Option Value) : Prop :=
  ∃ es clk, w.heap[b]? = some (.map es clk) ∧ GoodE es.toList clk ∧ ∀ k, getE es.toList k = m k

theorem StrMap.lt {w : World} {b : Nat} {m : List UInt8 → Option Value} (h : StrMap w b m) : b < w.heap.size := by
  obtain ⟨es, clk, h1, _⟩ := h; exact (Array.getElem?_eq_some_iff.1 h1).1
theorem StrMap.of_heap {w w' : World} {b : Nat} {m : List UInt8 → Option Value} (h : StrMap w b m) (hb : w'.heap[b]? = w.heap[b]?) : StrMap w' b m := by
  obtain ⟨es, clk, h1, h2⟩ := h; exact ⟨es, clk, hb.trans h1, h2⟩
theorem StrMap.touch {S : Nat → Prop} {w w' : World} {b : Nat} {m : List UInt8 → Option Value} (h : StrMap w b m) (g : Touch S w w') (hs : ¬ S b) : StrMap w' b m :=
  h.of_heap (g.block b h.lt hs)
theorem StrMap.grow {w w' : World} {b : Nat} {m : List UInt8 → Option Value} (h : StrMap w b m) (g : Below w.heap.size w w') : StrMap w' b m := h.of_heap (g.block b h.lt)
theorem StrMap.fresh {w : World} {b : Nat} (h : w.heap[b]? = some (.map #[] 0)) : StrMap w b (fun _ => none) :=
  ⟨#[], 0, h, ⟨by simp, by simp [keysOf], by simp, by simp⟩, fun _ => rfl⟩
theorem StrMap.made (w : World) : StrMap (w.alloc (.map #[] 0)) w.heap.size (fun _ => none) :=
  ⟨#[], 0, heap_alloc_new w _, ⟨by simp, by simp [keysOf], by simp, by simp⟩, fun _ => rfl⟩

theorem findNow_str {es : List MapEntry} (hi : ∀ e ∈ es, ∃ k, e.key = .string (strB k)) (k : List UInt8) (i : Nat) :
    ∃ r, Instr.findNow .string (.string (strB k)) es i = some r ∧ r.map (·.2) = getE es k ∧ ∀ p, r = some p → i ≤ p.1 ∧ p.1 - i < es.length ∧ ∃ e, es[p.1 - i]? = some e ∧ e.key = .string (strB k) := by
  induction es generalizing i with
  | nil => exact ⟨none, rfl, rfl, fun p h => by cases h⟩
  | cons e r ih =>
    obtain ⟨j, hj⟩ := hi e (by simp)
    by_cases hjk : k = j
    · subst hjk
      refine ⟨some (i, e.val), by simp [Instr.findNow, hj, Instr.sameNow, strB_eqb], by simp [getE, keyS_of hj], fun p h => ?_⟩
      cases h
      exact ⟨Nat.le_refl _, by simp, e, by simp, hj⟩
    · obtain ⟨q, h1, h2, h3⟩ := ih (fun e he => hi e (by simp [he])) (i + 1)
      refine ⟨q, ?_, ?_, fun p h => ?_⟩
      · have : (strB k == strB j) = false := by rw [strB_eqb, decide_eq_false_iff_not]; exact hjk
        simp only [Instr.findNow, hj, Instr.sameNow, if_true, this]; exact h1
      · rw [h2]; simp [getE, keyS_of hj, Ne.symm hjk]
      · obtain ⟨a, b, e', c, d⟩ := h3 p h
        refine ⟨by omega, by simp; omega, e', ?_, d⟩
        have : p.1 - i = (p.1 - (i + 1)) + 1 := by omega
        rw [this]; simpa using c

section
variable {P : Program} {T K E : TypeId} {w : World} {b : Nat} {m : List UInt8 → Option Value}

theorem run_checkKey_str (hK : P.underlying K = some .string) (empty : Bool) (k : List UInt8) (w : World) : (Instr.checkKey empty 10000 K (.string (strB k))).run P w = .ok () w := by
  have : (10000 : Nat) = 9999 + 1 := rfl
  rw [this, Instr.checkKey]
  simp [Sem.run_bind, run_underlying hK, Result.andThen]

theorem run_findKey_str (hK : P.underlying K = some .string) {es : List MapEntry} (hi : ∀ e ∈ es, ∃ k, e.key = .string (strB k)) (k : List UInt8) (w : World) :
    ∃ r, (Instr.findKey K (.string (strB k)) es).run P w = .ok r w ∧ r.map (·.2) = getE es k ∧ ∀ p, r = some p → p.1 < es.length ∧ ∃ e, es[p.1]? = some e ∧ e.key = .string (strB k) := by
  obtain ⟨r, h1, h2, h3⟩ := findNow_str hi k 0
  refine ⟨r, ?_, h2, fun p h => ?_⟩
  · simp [Instr.findKey, Sem.run_bind, run_underlying hK, Result.andThen, h1]
  · have := h3 p h; simpa using this

/-- A lookup. -/
theorem run_lookup_str (h : StrMap w b m) (hT : P.underlying T = some (.map K E)) (hK : P.underlying K = some .string) {z : Value} (hz : ∀ w, (zeroValue E).run P w = .ok z w) (k : List UInt8) :
    (Instr.lookup T (.map (some b)) (.string (strB k)) false).run P w = .ok ((m k).getD z) w := by
  obtain ⟨es, clk, hb, hg, hm⟩ := h
  obtain ⟨r, h1, h2, _⟩ := run_findKey_str (P := P) hK hg.int k w
  rw [hm] at h2
  unfold Instr.lookup
  simp only [Sem.run_bind, run_underlying hT, Result.andThen_ok, getObj, Sem.run, hb, Sem.run_pure, run_checkKey_str hK, h1]
  cases r with
  | none => simp [← h2, hz]
  | some p => simp [← h2]

theorem run_lookup_nilS (hT : P.underlying T = some (.map K E)) (hK : P.underlying K = some .string) {z : Value} (hz : ∀ w, (zeroValue E).run P w = .ok z w) (k : List UInt8) :
    (Instr.lookup T (.map none) (.string (strB k)) false).run P w = .ok z w := by
  unfold Instr.lookup
  simp only [Sem.run_bind, run_underlying hT, Result.andThen_ok, Sem.run_pure, run_checkKey_str hK]
  simp [Instr.findKey, run_underlying hK, Result.andThen, Instr.findNow, hz]

def updS (m : List UInt8 → Option Value) (k : List UInt8) (v : Value) : List UInt8 → Option Value := fun j => if j = k then some v else m j

theorem getE_none {es : List MapEntry} {k : List UInt8} (h : getE es k = none) : k ∉ keysOf es := by
  induction es with
  | nil => simp [keysOf]
  | cons e r ih =>
    unfold getE at h
    split at h
    · cases h
    · rename_i hne
      unfold keysOf
      rw [List.filterMap_cons]
      cases hk : keyS e with
      | none => exact ih h
      | some j =>
        simp only [List.mem_cons, not_or]
        exact ⟨fun e' => hne (by rw [hk, e']), ih h⟩

theorem getE_append (es : List MapEntry) (k j : List UInt8) (v : Value) (c : Nat) : getE (es ++ [{ key := .string (strB k), val := v, born := c }]) j = match getE es j with | some u => some u | none => if k = j then some v else none := by
  induction es with
  | nil => simp [getE, keyS, strB]
  | cons e r ih =>
    simp only [List.cons_append, getE]
    split
    · rfl
    · exact ih

theorem keysOf_set {es : List MapEntry} {i : Nat} {e e' : MapEntry} (h : es[i]? = some e) (hk : keyS e' = keyS e) : keysOf (es.set i e') = keysOf es := by
  induction es generalizing i with
  | nil => simp at h
  | cons x r ih =>
    cases i with
    | zero => simp at h; subst h; simp [keysOf, List.filterMap_cons, hk]
    | succ i => simp at h; simp only [List.set_cons_succ, keysOf, List.filterMap_cons]; have := ih h; unfold keysOf at this; rw [this]

theorem getE_set {es : List MapEntry} (hn : (keysOf es).Nodup) {i : Nat} {e e' : MapEntry} {k : List UInt8} {v : Value} (h : es[i]? = some e) (hk : keyS e = some k) (hk' : keyS e' = some k) (hv : e'.val = v) (j : List UInt8) :
    getE (es.set i e') j = if j = k then some v else getE es j := by
  induction es generalizing i with
  | nil => simp at h
  | cons x r ih =>
    have hn' : (keysOf r).Nodup := by
      simp only [keysOf, List.filterMap_cons] at hn
      split at hn
      · exact hn
      · exact (List.nodup_cons.1 hn).2
    cases i with
    | zero =>
      simp at h; subst h
      simp only [List.set_cons_zero, getE, hk', hk, hv]
      by_cases hjk : j = k
      · simp [hjk]
      · simp [hjk, Ne.symm hjk]
    | succ i =>
      simp at h
      have hmem : k ∈ keysOf r := by
        simp only [keysOf, List.mem_filterMap]; exact ⟨e, List.mem_of_getElem? h, hk⟩
      simp only [List.set_cons_succ, getE, ih hn' h]
      split
      · rename_i hq
        have : j ≠ k := fun ejk => by
          simp only [keysOf, List.filterMap_cons, hq] at hn
          exact (List.nodup_cons.1 hn).1 (by rw [ejk]; exact hmem)
        simp [this]
      · rfl

theorem modify_toList (es : Array MapEntry) (i : Nat) (e : MapEntry) (f : MapEntry → MapEntry) (h : es[i]? = some e) : (es.modify i f).toList = es.toList.set i (f e) := by
  apply List.ext_getElem?
  intro n
  rw [List.getElem?_set, Array.getElem?_toList, Array.getElem?_modify]
  split
  · rename_i hn; subst hn; obtain ⟨hlt, he⟩ := Array.getElem?_eq_some_iff.1 h; simp [hlt, he]
  · simp

/-- A store. -/
theorem run_mapUpdate_str (h : StrMap w b m) (hT : P.underlying T = some (.map K E)) (hK : P.underlying K = some .string) (k : List UInt8) (v : Value) :
    ∃ w', (Instr.mapUpdate T (.map (some b)) (.string (strB k)) v).run P w = .ok () w' ∧ Touch (fun x => x = b) w w' ∧ StrMap w' b (updS m k v) ∧ w'.heap.size = w.heap.size := by
  obtain ⟨es, clk, hb, hg, hm⟩ := h
  obtain ⟨r, h1, h2, h3⟩ := run_findKey_str (P := P) hK hg.int k w
  rw [hm] at h2
  unfold Instr.mapUpdate
  simp only [Sem.run_bind, run_underlying hT, Result.andThen_ok, getObj, Sem.run, hb, Sem.run_pure, run_checkKey_str hK, h1]
  cases r with
  | none =>
    have hmk : m k = none := by simpa using h2.symm
    refine ⟨w.putObj b (.map (es.push { key := .string (strB k), val := v, born := clk }) (clk + 1)), ?_, (Touch.refl _ _).putObj (.inl (by exact rfl)) _, ⟨_, _, putObj_self hb, ?_, ?_⟩, by simp⟩
    · simp [setObj, Sem.run, hb, World.putObj]
    · refine ⟨?_, ?_, ?_, ?_⟩
      · intro e he
        rw [Array.toList_push] at he
        rcases List.mem_append.1 he with he | he
        · exact hg.int e he
        · cases List.mem_singleton.1 he; exact ⟨k, rfl⟩
      · have := getE_none ((hm k).trans hmk)
        simp only [Array.toList_push, keysOf, List.filterMap_append, List.filterMap_cons, List.filterMap_nil, keyS]
        rw [List.nodup_append]
        refine ⟨hg.keys, by simp, fun a ha c hc => ?_⟩
        simp only [List.mem_singleton] at hc
        subst hc; exact fun e => this (by rw [← e]; exact ha)
      · simp only [Array.toList_push, List.map_append, List.map_cons, List.map_nil]
        rw [List.nodup_append]
        refine ⟨hg.born, by simp, fun a ha c hc => ?_⟩
        simp only [List.mem_singleton] at hc
        obtain ⟨e, he, rfl⟩ := List.mem_map.1 ha
        have := hg.clock e he
        omega
      · intro e he
        simp only [Array.toList_push, List.mem_append, List.mem_singleton] at he
        rcases he with he | rfl
        · have := hg.clock e he; omega
        · simp
    · intro j
      rw [Array.toList_push, getE_append, hm]
      unfold updS
      by_cases hjk : j = k
      · subst hjk; simp [hmk]
      · simp only [hjk, Ne.symm hjk, if_false]
        cases m j <;> rfl
  | some p =>
    obtain ⟨i, u⟩ := p
    obtain ⟨hlt, e, he, hke⟩ := h3 _ rfl
    have hlt' : i < es.size := by simpa using hlt
    have he' : es[i]? = some e := by simpa using he
    have hkt : (Instr.keyThatStays (((es[i]?).map (·.key)).getD (.string (strB k))) (.string (strB k))).run P w = .ok (.string (strB k)) w := by
      simp only [he', Option.map_some, Option.getD_some, hke, Instr.keyThatStays]
      simp [Instr.sameBits, strB_eqb]
    refine ⟨w.putObj b (.map (es.modify i fun e => { e with key := .string (strB k), val := v }) clk), ?_, (Touch.refl _ _).putObj (.inl (by exact rfl)) _, ⟨_, _, putObj_self hb, ?_, ?_⟩, by simp⟩
    · simp only [Sem.run_bind, hkt, Result.andThen_ok]
      simp [setObj, Sem.run, hb, World.putObj]
    · rw [modify_toList es i e _ he']
      refine ⟨?_, ?_, ?_, ?_⟩
      · intro e' h'
        rcases List.mem_or_eq_of_mem_set h' with h' | rfl
        · exact hg.int e' h'
        · exact ⟨k, rfl⟩
      · rw [keysOf_set he (by simp [keyS, hke])]; exact hg.keys
      · rw [List.map_set]
        have : (es.toList.map (·.born)).set i e.born = es.toList.map (·.born) := by
          apply List.ext_getElem?
          intro n
          rw [List.getElem?_set]
          split
          · rename_i h; subst h; simp [he']; omega
          · rfl
        simp only [this]; exact hg.born
      · intro e' h'
        rcases List.mem_or_eq_of_mem_set h' with h' | rfl
        · exact hg.clock e' h'
        · exact hg.clock e (List.mem_of_getElem? he)
    · intro j
      rw [modify_toList es i e _ he', getE_set hg.keys he (keyS_of hke) rfl rfl, hm]
      rfl
end
theorem wpList_mapUpdate {P : Program} {w w' : World} {a : Act} {o : Oper} {ops : Array Oper} {rest : List Oper} {Q : Exit → Act → World → Prop} {t : TypeId} {x y z : Operand} {m k u : Value} (hg : o.guard = none) (ho : o.op = .mapUpdate t x y z) (hx : a.eval x = m) (hy : a.eval y = k) (hz : a.eval z = u)
    (hr : (Instr.mapUpdate t m k u).run P w = .ok () w') (h : wpList P ops Q rest (a.put o.dst undef) w') : wpList P ops Q (o :: rest) a w :=
  wpList_plain hg fun K hK => by unfold Oper.wp; rw [exec_mapUpdate ho hx hy hz hr]; exact hK _ _ h
end Go.Proofs.YtnkaegdnjfpliaaGreatDoor

/-! value.Once. -/
namespace Go.Proofs.YtnkaegdnjfpliaaGreatDoor
set_option linter.unusedSimpArgs false
set_option linter.unusedVariables false
open Go.RowKit

/-! ### Each once, by its text -/
def stepO (out : List V) (v : V) : List V := if textV v ∈ out.map textV then out else out ++ [v]
def onceL (l : List V) : List V := l.foldl stepO []
theorem onceL_snoc (l : List V) (v : V) : onceL (l ++ [v]) = stepO (onceL l) v := by unfold onceL; rw [List.foldl_append]; rfl
theorem fold_mem (t : List UInt8) : ∀ (l out : List V), t ∈ (l.foldl stepO out).map textV ↔ t ∈ out.map textV ∨ t ∈ l.map textV := by
  intro l
  induction l with
  | nil => intro out; simp
  | cons a r ih =>
    intro out
    rw [List.foldl_cons, ih]
    unfold stepO
    by_cases h : textV a ∈ out.map textV
    · rw [if_pos h, List.map_cons, List.mem_cons]
      constructor
      · rintro (h1 | h1)
        · exact .inl h1
        · exact .inr (.inr h1)
      · rintro (h1 | h1 | h1)
        · exact .inl h1
        · exact .inl (h1 ▸ h)
        · exact .inr h1
    · rw [if_neg h, List.map_append, List.mem_append, List.map_cons, List.map_nil, List.mem_singleton, List.map_cons, List.mem_cons]
      constructor
      · rintro ((h1 | h1) | h1)
        · exact .inl h1
        · exact .inr (.inl h1)
        · exact .inr (.inr h1)
      · rintro (h1 | h1 | h1)
        · exact .inl (.inl h1)
        · exact .inl (.inr h1)
        · exact .inr h1
theorem once_mem (l : List V) (t : List UInt8) : t ∈ (onceL l).map textV ↔ t ∈ l.map textV := by
  unfold onceL; rw [fold_mem]; simp
theorem once_length (l : List V) : (onceL l).length ≤ l.length := by
  have : ∀ (l out : List V), (l.foldl stepO out).length ≤ out.length + l.length := by
    intro l
    induction l with
    | nil => intro out; simp
    | cons a r ih =>
      intro out
      rw [List.foldl_cons]
      have h1 := ih (stepO out a)
      have h2 : (stepO out a).length ≤ out.length + 1 := by unfold stepO; split <;> simp
      simp only [List.length_cons]
      omega
  have := this l []
  simpa [onceL] using this
/-- How often a text was met. -/
def metN (l : List V) (t : List UInt8) : Nat := (l.map textV).count t
def metM (l : List V) : List UInt8 → Option Value := fun t => if metN l t = 0 then none else some (.int .i64 (metN l t : Int))
theorem metN_le (l : List V) (t : List UInt8) : metN l t ≤ l.length := by unfold metN; have := List.count_le_length (a := t) (l := l.map textV); simpa using this
theorem metN_zero (l : List V) (t : List UInt8) : metN l t = 0 ↔ t ∉ (onceL l).map textV := by
  rw [once_mem]; unfold metN; exact List.count_eq_zero
theorem metN_snoc (l : List V) (v : V) (t : List UInt8) : metN (l ++ [v]) t = metN l t + if t = textV v then 1 else 0 := by
  unfold metN
  rw [List.map_append, List.count_append, List.map_cons, List.map_nil, List.count_cons, List.count_nil]
  by_cases h : t = textV v
  · subst h; simp
  · have : (textV v == t) = false := by rw [beq_eq_false_iff_ne]; exact fun e => h e.symm
    simp [h, this]
theorem metM_snoc (l : List V) (v : V) : updS (metM l) (textV v) (.int .i64 ((metN l (textV v) : Int) + 1)) = metM (l ++ [v]) := by
  funext t
  unfold updS metM
  rw [metN_snoc]
  by_cases h : t = textV v
  · subst h; simp
  · simp [h]
theorem metM_get (l : List V) (t : List UInt8) : (metM l t).getD (.int .i64 0) = .int .i64 (metN l t : Int) := by
  unfold metM
  by_cases h : metN l t = 0
  · rw [if_pos h, h]; rfl
  · rw [if_neg h]; rfl
/-! ### What lies so far -/
/-- The first blocks of a world. -/
def Cut (W : World) (n : Nat) : World := { W with heap := W.heap.extract 0 n }
theorem Cut.size {W : World} {n : Nat} (h : n ≤ W.heap.size) : (Cut W n).heap.size = n := by simp [Cut]; omega
theorem Cut.below {W : World} {n : Nat} (h : n ≤ W.heap.size) : Below (Cut W n).heap.size (Cut W n) W := by
  refine ⟨rfl, rfl, rfl, by rw [Cut.size h]; exact h, fun b hb => ?_⟩
  rw [Cut.size h] at hb
  show W.heap[b]? = (W.heap.extract 0 n)[b]?
  rw [Array.getElem?_extract, if_pos (by omega), Nat.zero_add]
theorem CInv.recut {W W' : World} {n : Nat} {ov : Value} {m : List V} (hn : n ≤ W.heap.size) (h : CInv (Cut W n) W ov m) (hs : W.heap.size ≤ W'.heap.size) (hk : ∀ b, n ≤ b → b < W.heap.size → W'.heap[b]? = W.heap[b]?) : CInv (Cut W' n) W' ov m := by
  obtain ⟨xs, h1, h2, _⟩ := h
  rw [Cut.size hn] at h1 h2
  have e : (Cut W' n).heap.size = n := Cut.size (by omega)
  refine ⟨xs, ?_, ?_, Cut.below (by omega)⟩
  · rw [e]; exact h1.keep fun b hb hl => hk b hb hl
  · rw [e]; exact h2.keep fun b hb hl => hk b hb.1 hl
structure OInv (w : World) (mb : Nat) (W : World) (o : Value) (m : List V) : Prop where
  le : w.heap.size ≤ mb
  lt : mb < W.heap.size
  out : CInv (Cut W (mb + 1)) W o (onceL m)
  met : StrMap W mb (metM m)
  below : Below w.heap.size w W
theorem OInv.keep {w W W' : World} {mb : Nat} {o : Value} {m : List V} (h : OInv w mb W o m) (g : Below W.heap.size W W') : OInv w mb W' o m :=
  ⟨h.le, by have := h.lt; have := g.size; omega, h.out.recut h.lt g.size fun b _ hb => g.block b hb, h.met.grow g, below_trans h.below g⟩
theorem OInv.start {w w1 : World} (hb : Below w.heap.size w w1) : OInv w w1.heap.size (w1.alloc (.map #[] 0)) (.slice none 0 0) [] :=
  ⟨hb.size, by simp, CInv.start (Cut.below (by simp)), by
    have := StrMap.made w1
    exact this, below_trans hb (below_new _)⟩
theorem OInv.next {w w3 W2 : World} {mb : Nat} {o : Value} {m m' : List V} (hle : w.heap.size ≤ mb) (hlt : mb < w3.heap.size) (hc : CInv (Cut w3 (mb + 1)) W2 o m') (hm : StrMap w3 mb (metM m)) (hb : Below w.heap.size w w3) (e : onceL m = m') : OInv w mb W2 o m := by
  subst e
  obtain ⟨xs, h1, h2, h3⟩ := hc
  have hs : (Cut w3 (mb + 1)).heap.size = mb + 1 := Cut.size hlt
  rw [hs] at h1 h2 h3
  have hsz : mb + 1 ≤ W2.heap.size := by have := h3.size; rw [hs] at this; exact this
  have hcut : ∀ b, b < mb + 1 → W2.heap[b]? = w3.heap[b]? := fun b hb => by
    rw [h3.block b hb]
    show (w3.heap.extract 0 (mb + 1))[b]? = _
    rw [Array.getElem?_extract, if_pos (by omega), Nat.zero_add]
  refine ⟨hle, hsz, ⟨xs, ?_, ?_, Cut.below hsz⟩, hm.of_heap (hcut mb (by omega)), ⟨h3.os.trans hb.os, h3.tape.trans hb.tape, h3.output.trans hb.output, by omega, fun b hlt => (hcut b (by omega)).trans (hb.block b hlt)⟩⟩
  · rw [Cut.size hsz]; exact h1
  · rw [Cut.size hsz]; exact h2
set_option maxRecDepth 100000 in
set_option maxHeartbeats 4000000 in
theorem once_any {w : World} {p : Option Addr} {c : Nat} {l : List V} (hE : Env w) (hl : LRd w p c l) (hr : ∀ v ∈ l, rngV v) (ht : totVs l ≤ 1000000) :
    Calls Tryz.prog 49 #[.slice p l.length c] w fun e w' => ∃ vl, e = .returned vl ∧ LOwn w' (fun b => w.heap.size ≤ b) vl (if fineL l then onceL l else []) ∧ Below w.heap.size w w' := by
  have HF := Lib.hid (fine_any hE hl (by omega))
  have hlen := totVs_length l
  have z1 : (l.length : Int) ≤ 1000000 := by omega
  cases hf : fineL l with
  | false =>
    rw [hf] at HF
    clear hE hl hr ht hlen
    go_enter Tryz.func49, Tryz.ntmps49
    go_wp2_with (go_at_call 62; refine HF.out.mono ?_; rintro e w1 ⟨rfl, hb⟩; have HB := Lib.hid hb; clear hb)
    go_ret
    exact ⟨_, rfl, ⟨[], ⟨⟨rfl, .inl ⟨rfl, rfl⟩⟩, fun g hg => by simp [Value.ownBlock] at hg⟩, rfl⟩, HB.out⟩
  | true =>
    rw [hf] at HF
    have hmay := fineL_may hf
    have HV := Lib.hid (And.intro hl (And.intro hE (fun (v : V) (hv : v ∈ l) (W : World) (x : Array Value) => And.intro (tell_any v (hmay v hv) (hr v hv) (by have := totVs_mem hv; omega) W x) (And.intro (copy_any v (by have := totVs_mem hv; omega) W x) (text_len v (hr v hv))))))
    have HN := Lib.hid (show l.length ≤ 1000000 by omega)
    clear hE hl hr ht hlen hmay
    have hmm := @run_makeMap Tryz.prog
    go_enter Tryz.func49, Tryz.ntmps49
    go_wp2_with (go_at_call 62; refine HF.out.mono ?_; rintro e w1 ⟨rfl, hb⟩; have HS := Lib.hid (OInv.start hb); clear hb)
    go_loopw [4, 14] (fun o i W => ∃ j : Nat, j ≤ l.length ∧ i = .int .i64 (j : Int) ∧ Hid (OInv w w1.heap.size W o (l.take j))) (fun _ i _ => l.length - (intOf i).toNat)
    case atStart => exact ⟨0, Nat.zero_le _, rfl, HS⟩
    case round =>
      clear HS
      obtain ⟨j, hj, rfl, HJ⟩ := hrel
      by_cases hlt : j < l.length
      · have hlt1 : j + 1 ≤ l.length := hlt
        obtain ⟨g1, o1, pk1, ck1, pl1, cl1, rfl, ⟨b0, b1, b2, b3, b4, b5⟩, hv1⟩ := HV.out.1.at hlt
        have a0 := belowCell HJ.out.below (ltOf b0) b0
        have a1 := belowCell HJ.out.below (ltOf b1) b1
        have a2 := belowCell HJ.out.below (ltOf b2) b2
        have a3 := belowCell HJ.out.below (ltOf b3) b3
        have a4 := belowCell HJ.out.below (ltOf b4) b4
        have a5 := belowCell HJ.out.below (ltOf b5) b5
        clear b0 b1 b2 b3 b4 b5
        have hcall := HV.out.2.2 l[j] (List.getElem_mem hlt)
        have htk : l.take (j + 1) = l.take j ++ [l[j]] := List.take_succ_eq_append_getElem hlt
        have hml := metN_le (l.take j) (textV l[j])
        have hml2 : (l.take j).length ≤ 1000000 := by rw [List.length_take]; have := HN.out; omega
        have hz := metN_zero (l.take j) (textV l[j])
        have hol : (onceL (l.take j)).length ≤ 1000000 := by have := once_length (l.take j); omega
        generalize l[j] = s1 at *
        have HD := Lib.hid (And.intro htk (And.intro hcall (And.intro hv1 (And.intro HV.out.2.1 hol))))
        have zs : (strB (textV s1)).size = (textV s1).length := rfl
        clear hcall hv1 htk zs
        by_cases hc : metN (l.take j) (textV s1) = 0
        · have hst : onceL (l.take j ++ [s1]) = onceL (l.take j) ++ [s1] := by rw [onceL_snoc]; unfold stepO; rw [if_neg (hz.1 hc)]
          have HC := Lib.hid (And.intro hc hst)
          clear hc hst hz hml hml2 hol
          go_wp2_with (first
            | (go_at_call 67
               (
                 refine ((HD.out.2.1 _ _).1 (HD.out.2.2.2.1.b (below_trans HJ.out.below (below_new _))) (HD.out.2.2.1.below (below_trans HJ.out.below (below_new _)))).mono ?_
                 rintro e w2 ⟨rfl, hb⟩
                 have hb2 := below_trans (below_new _) hb
                 have hI := HJ.out.keep hb2
                 have hbox := belowBlk hb (by simp) (heap_alloc_new wr (.cells #[.int .i64 s1.kind, .bool s1.b, .int .i64 s1.n, .string (strB s1.text), .slice pk1 s1.keys.length ck1, .slice pl1 s1.list.length cl1] 26))
                 have hlk := run_lookup_str (P := Tryz.prog) (T := 98) hI.met Tryz.underlying98 Tryz.underlying9 (fun w => Tryz.zeroValue3 w) (textV s1)
                 rw [metM_get, HC.out.1] at hlk
                 obtain ⟨w3, hup, hT3, hM3, hz3⟩ := run_mapUpdate_str (P := Tryz.prog) (T := 98) hI.met Tryz.underlying98 Tryz.underlying9 (textV s1) (.int .i64 1)
                 have hM4 : StrMap w3 w1.heap.size (metM (l.take j ++ [s1])) := by
                   have := metM_snoc (l.take j) s1
                   rw [HC.out.1] at this
                   rw [← this]; exact hM3
                 have hlk2 := run_lookup_str (P := Tryz.prog) (T := 98) hM4 Tryz.underlying98 Tryz.underlying9 (fun w => Tryz.zeroValue3 w) (textV s1)
                 rw [metM_get, metN_snoc, HC.out.1] at hlk2
                 rw [if_pos rfl] at hlk2
                 have hne : wr.heap.size ≠ w1.heap.size := fun e => by have := HJ.out.lt; omega
                 have hbox3 := hT3.heap hbox hne
                 have hout := hI.out.recut hI.lt (by omega : w2.heap.size ≤ w3.heap.size) fun b h1 h2 => hT3.block b h2 (by omega)
                 have hb3 : Below w.heap.size w w3 := hT3.below hI.below (fun b h1 h2 => by have := hI.le; omega) hI.below.size
                 have H1 := Lib.hid hlk
                 have H2 := Lib.hid hup
                 have H3 := Lib.hid hlk2
                 have H4 := Lib.hid (get_val hbox3)
                 have HI := Lib.hid (And.intro hout (And.intro hM4 (And.intro hb3 (And.intro hI.le (show w1.heap.size < w3.heap.size by have := hI.lt; omega)))))
                 clear hb hb2 hI hbox hlk hup hT3 hM3 hz3 hM4 hlk2 hne hbox3 hout hb3))
            | (refine wpList_run rfl (exec_lookup rfl rfl rfl H1.out) ?_; simp only [Act.put, List.setIfInBounds_toArray, List.set_cons_zero, List.set_cons_succ])
            | (refine wpList_mapUpdate rfl rfl rfl rfl rfl H2.out ?_)
            | (refine wpList_run rfl (exec_lookup rfl rfl rfl H3.out) ?_; simp only [Act.put, List.setIfInBounds_toArray, List.set_cons_zero, List.set_cons_succ])
            | (refine wpList_load rfl _ _ _ rfl rfl H4.out ?_)
            | (go_at_call 51
               (
                 refine ((HD.out.2.1 _ _).2.1 (HD.out.2.2.1.below HI.out.2.2.1)).mono ?_
                 rintro e w4 ⟨x, rfl, hx, hb⟩
                 obtain ⟨v', W2, ha, hO⟩ := HI.out.1.step (Nat.le_refl _) hb hx HD.out.2.2.2.2 24
                 obtain ⟨vk, vl, rfl, _⟩ := hx.open
                 have Ha := Lib.hid ha
                 have HO := Lib.hid hO
                 clear ha hO hx hb))
            | (refine wpList_append rfl rfl rfl rfl Ha.out ?_))
          go_roundw
          case rel => exact ⟨j + 1, hlt1, by go_num, Lib.hid (OInv.next HI.out.2.2.2.1 HI.out.2.2.2.2 HO.out (by rw [HD.out.1]; exact HI.out.2.1) HI.out.2.2.1 (by rw [HD.out.1]; exact HC.out.2))⟩
          case measure => simp [intOf]; omega
        · have hst : onceL (l.take j ++ [s1]) = onceL (l.take j) := by
            rw [onceL_snoc]; unfold stepO
            by_cases hin : textV s1 ∈ (onceL (l.take j)).map textV
            · rw [if_pos hin]
            · exact absurd (hz.2 hin) hc
          have HC := Lib.hid hst
          generalize hcn : metN (l.take j) (textV s1) = cn at *
          have hN : (cn : Int) + 1 ≤ 1000001 := by omega
          have hq : ((cn : Int) + 1 == 1) = false := by rw [beq_eq_false_iff_ne]; omega
          have hq2 : ¬ (cn : Int) = 0 := by omega
          have HCN := Lib.hid hcn
          clear hcn hst hz hml hml2 hol
          go_wp2_with (first
            | (go_at_call 67
               (
                 refine ((HD.out.2.1 _ _).1 (HD.out.2.2.2.1.b (below_trans HJ.out.below (below_new _))) (HD.out.2.2.1.below (below_trans HJ.out.below (below_new _)))).mono ?_
                 rintro e w2 ⟨rfl, hb⟩
                 have hb2 := below_trans (below_new _) hb
                 have hI := HJ.out.keep hb2
                 have hlk := run_lookup_str (P := Tryz.prog) (T := 98) hI.met Tryz.underlying98 Tryz.underlying9 (fun w => Tryz.zeroValue3 w) (textV s1)
                 rw [metM_get, HCN.out] at hlk
                 obtain ⟨w3, hup, hT3, hM3, hz3⟩ := run_mapUpdate_str (P := Tryz.prog) (T := 98) hI.met Tryz.underlying98 Tryz.underlying9 (textV s1) (.int .i64 ((cn : Int) + 1))
                 have hM4 : StrMap w3 w1.heap.size (metM (l.take j ++ [s1])) := by
                   have := metM_snoc (l.take j) s1
                   rw [HCN.out] at this
                   rw [← this]; exact hM3
                 have hlk2 := run_lookup_str (P := Tryz.prog) (T := 98) hM4 Tryz.underlying98 Tryz.underlying9 (fun w => Tryz.zeroValue3 w) (textV s1)
                 rw [metM_get, metN_snoc, HCN.out, if_pos rfl] at hlk2
                 have hout := hI.out.recut hI.lt (by omega : w2.heap.size ≤ w3.heap.size) fun b h1 h2 => hT3.block b h2 (by omega)
                 have hb3 : Below w.heap.size w w3 := hT3.below hI.below (fun b h1 h2 => by have := hI.le; omega) hI.below.size
                 have hlk3 : (Instr.lookup 98 (.map (some w1.heap.size)) (.string (strB (textV s1))) false).run Tryz.prog w3 = .ok (.int .i64 ((cn : Int) + 1)) w3 := by
                   rw [hlk2]; simp
                 have H1 := Lib.hid hlk
                 have H2 := Lib.hid hup
                 have H3 := Lib.hid hlk3
                 have HI := Lib.hid (And.intro hout (And.intro hM4 (And.intro hb3 (And.intro hI.le (show w1.heap.size < w3.heap.size by have := hI.lt; omega)))))
                 clear hb hb2 hI hlk hup hT3 hM3 hz3 hM4 hlk2 hlk3 hout hb3))
            | (refine wpList_run rfl (exec_lookup rfl rfl rfl H1.out) ?_; simp only [Act.put, List.setIfInBounds_toArray, List.set_cons_zero, List.set_cons_succ])
            | (refine wpList_mapUpdate rfl rfl rfl rfl rfl H2.out ?_)
            | (refine wpList_run rfl (exec_lookup rfl rfl rfl H3.out) ?_; simp only [Act.put, List.setIfInBounds_toArray, List.set_cons_zero, List.set_cons_succ]))
          go_roundw
          case rel => exact ⟨j + 1, hlt1, by go_num, Lib.hid (by rw [HD.out.1]; exact ⟨HI.out.2.2.2.1, HI.out.2.2.2.2, by rw [HC.out]; exact HI.out.1, HI.out.2.1, HI.out.2.2.1⟩)⟩
          case measure => simp [intOf]; omega
      · obtain rfl : j = l.length := by omega
        go_wp2
        go_ret
        have h := HJ.out
        rw [List.take_length] at h
        refine ⟨_, rfl, ?_, h.below⟩
        have := h.out.own
        rw [Cut.size h.lt] at this
        exact this.imp fun b _ hb => by have := h.le; omega
end Go.Proofs.YtnkaegdnjfpliaaGreatDoor

/-! ValueBounds: the values at the bounds, plain, and how they lie in memory. -/
namespace Go.Proofs.YtnkaegdnjfpliaaGreatDoor
set_option linter.unusedSimpArgs false
set_option linter.unusedVariables false
open Go.RowKit

/-- Nothing in lists. -/
def nest : Nat → V
  | 0 => V0
  | n + 1 => .mk 4 false 0 [] [] [nest n]
theorem nest_succ (n : Nat) : nest (n + 1) = .mk 4 false 0 [] [] [nest n] := rfl
theorem may_V0 : mayV Lib.validD V0 = true := by
  rw [mayV_iff]; exact ⟨rfl, fun x hx => by cases hx⟩
theorem may_nest : ∀ n, mayV Lib.validD (nest n) = true := by
  intro n
  induction n with
  | zero => exact may_V0
  | succ n ih =>
    rw [nest_succ, mayV_iff]
    exact ⟨rfl, fun x hx => by rw [show x = nest n by simpa [V.list] using hx]; exact ih⟩
theorem deep_nest : ∀ n, deepV (nest n) = n + 1 := by
  intro n
  induction n with
  | zero => rfl
  | succ n ih => rw [nest_succ, deepV, deepVs, deepVs, ih]; omega
theorem count_nest : ∀ n, countV (nest n) = n + 1 := by
  intro n
  induction n with
  | zero => rfl
  | succ n ih => rw [nest_succ, countV, countVs, countVs, ih]; omega
theorem bytes_nest : ∀ n, bytesV (nest n) = 0 := by
  intro n
  induction n with
  | zero => rfl
  | succ n ih => rw [nest_succ, bytesV, bytesVs, bytesVs, ih]; rfl
theorem long_nest : ∀ n, longV (nest n) ≤ 1 := by
  intro n
  induction n with
  | zero => exact Nat.zero_le _
  | succ n ih => rw [nest_succ, longV, longVs, longVs]; simp; omega
theorem tot_nest : ∀ n, totV (nest n) = n + 1 := by
  intro n
  induction n with
  | zero => rfl
  | succ n ih => rw [nest_succ, totV_mk]; simp [totVs, ih]; omega
theorem check_nest : checkV Lib.validD (nest 63) = 0 := by
  unfold checkV
  rw [may_nest, deep_nest, bytes_nest]
  have := long_nest 63
  rw [if_pos rfl, if_neg (by simp; omega)]
def overV : V := .mk 5 false 0 [] [[107]] [nest 63]
theorem check_over : checkV Lib.validD overV = 3 := by
  have hm : mayV Lib.validD overV = true := by
    unfold overV
    rw [mayV_iff]
    refine ⟨?_, fun x hx => by rw [show x = nest 63 by simpa [V.list] using hx]; exact may_nest 63⟩
    rw [oneV_iff]
    refine ⟨by simp [V.kind], by simp [V.kind], fun _ => rfl, fun _ _ _ => rfl, fun _ => rfl, fun h => absurd rfl h, fun _ h => absurd rfl h, fun h => by simp [V.kind] at h, rfl, fun _ => rfl, fun k hk => ?_, rfl⟩
    have : k = [107] := by simpa [V.keys] using hk
    subst this
    exact Lib.validD_cons 107 [] (by decide)
  have hd : deepV overV = 65 := by unfold overV; rw [deepV, deepVs, deepVs, deep_nest]; rfl
  unfold checkV
  rw [hm, hd, if_pos rfl, if_pos (by simp)]
def longVl (n : Nat) : V := .mk 4 false 0 [] [] (List.replicate n V0)
theorem check_long (n : Nat) (h : 0 < n) : checkV Lib.validD (longVl n) = if 65536 < n then 3 else 0 := by
  have hm : mayV Lib.validD (longVl n) = true := by
    unfold longVl
    rw [mayV_iff]
    refine ⟨?_, fun x hx => by rw [show x = V0 from List.eq_of_mem_replicate hx]; exact may_V0⟩
    rw [oneV_iff]
    exact ⟨by simp [V.kind], by simp [V.kind], fun _ => rfl, fun _ _ _ => rfl, fun _ => rfl, fun _ => rfl, fun h _ => absurd rfl h, fun h => by simp [V.kind] at h, rfl, fun h => by simp [V.kind] at h, fun k hk => (by cases hk), rfl⟩
  have hd : ∀ n, deepVs (List.replicate n V0) ≤ 1 := by
    intro n
    induction n with
    | zero => exact Nat.zero_le _
    | succ n ih => rw [List.replicate_succ, deepVs]; have : deepV V0 = 1 := rfl; omega
  have hb : ∀ n, bytesVs (List.replicate n V0) = 0 := by
    intro n
    induction n with
    | zero => rfl
    | succ n ih => rw [List.replicate_succ, bytesVs, ih]; rfl
  have hl : ∀ n, longVs (List.replicate n V0) = 0 := by
    intro n
    induction n with
    | zero => rfl
    | succ n ih => rw [List.replicate_succ, longVs, ih]; rfl
  have h1 : deepV (longVl n) ≤ 2 := by unfold longVl; rw [deepV]; have := hd n; omega
  have h2 : bytesV (longVl n) = 0 := by unfold longVl; rw [bytesV, hb]; rfl
  have h3 : longV (longVl n) = n := by unfold longVl; rw [longV, hl]; simp
  unfold checkV
  rw [hm, h2, h3, if_pos rfl]
  by_cases hn : 65536 < n
  · rw [if_pos (by simp; omega), if_pos hn]
  · rw [if_neg (by simp; omega), if_neg hn]
theorem tot_long (n : Nat) : totV (longVl n) = n + 1 := by
  have hl : ∀ n, totVs (List.replicate n V0) = n := by
    intro n
    induction n with
    | zero => rfl
    | succ n ih => rw [List.replicate_succ, totVs_cons, ih]; have : totV V0 = 1 := rfl; omega
  unfold longVl; rw [totV_mk, hl]; simp; omega
def textVl (Z T : List UInt8) : V := .mk 5 false 0 [] [Z] [.mk 3 false 0 T [] []]
theorem check_text {Z T : List UInt8} (hZ : Lib.validD Z = true) (hT : Lib.validD T = true) : checkV Lib.validD (textVl Z T) = if 1048576 < Z.length + T.length then 3 else 0 := by
  have hm1 : mayV Lib.validD (.mk 3 false 0 T [] []) = true := by
    rw [mayV_iff]
    refine ⟨?_, fun x hx => by cases hx⟩
    rw [oneV_iff]
    exact ⟨by simp [V.kind], by simp [V.kind], fun _ => rfl, fun _ _ _ => rfl, fun h => absurd rfl h, fun _ => rfl, fun _ _ => rfl, fun h => by simp [V.kind] at h, hT, fun h => by simp [V.kind] at h, fun k hk => (by cases hk), rfl⟩
  have hm : mayV Lib.validD (textVl Z T) = true := by
    unfold textVl
    rw [mayV_iff]
    refine ⟨?_, fun x hx => by rw [show x = .mk 3 false 0 T [] [] by simpa [V.list] using hx]; exact hm1⟩
    rw [oneV_iff]
    refine ⟨by simp [V.kind], by simp [V.kind], fun _ => rfl, fun _ _ _ => rfl, fun _ => rfl, fun h => absurd rfl h, fun _ h => absurd rfl h, fun h => by simp [V.kind] at h, rfl, fun _ => rfl, fun k hk => ?_, rfl⟩
    have : k = Z := by simpa [V.keys] using hk
    subst this
    exact hZ
  have h1 : deepV (textVl Z T) = 2 := by unfold textVl; simp [deepV, deepVs]
  have h2 : bytesV (textVl Z T) = Z.length + T.length := by unfold textVl; simp [bytesV, bytesVs]
  have h3 : longV (textVl Z T) = 1 := by unfold textVl; simp [longV, longVs]
  unfold checkV
  rw [hm, h1, h2, h3, if_pos rfl]
  by_cases hn : 1048576 < Z.length + T.length
  · rw [if_pos (by simp; omega), if_pos hn]
  · rw [if_neg (by simp; omega), if_neg hn]
theorem tot_text (Z T : List UInt8) : totV (textVl Z T) = 3 + 1 * Z.length + T.length := by
  unfold textVl
  rw [totV_mk]
  simp [totVs, totV_mk]
  omega
theorem valid_zeros (n : Nat) : Lib.validD (List.replicate n 0) = true := by
  induction n with
  | zero => rfl
  | succ n ih => rw [List.replicate_succ, Lib.validD_cons _ _ (by decide)]; exact ih
theorem valid_zerosA (n : Nat) : Lib.validD (List.replicate n 0 ++ [97]) = true := by
  induction n with
  | zero => exact Lib.validD_cons 97 [] (by decide)
  | succ n ih => rw [List.replicate_succ, List.cons_append, Lib.validD_cons _ _ (by decide)]; exact ih

/-! ### In memory -/
/-- A value in a box. -/
structure Boxed (w : World) (W : World) (p : Nat) (v : V) (X : Array Value) : Prop where
  blk : W.heap[p]? = some (.cells X 26 (0, 0))
  rd : VRd W v X
theorem Boxed.below {w W W' : World} {p : Nat} {v : V} {X : Array Value} (h : Boxed w W p v X) (g : Below W.heap.size W W') : Boxed w W' p v X := ⟨belowBlk g (Array.getElem?_eq_some_iff.1 h.blk).1 h.blk, h.rd.below g⟩
theorem RdS.one {W : World} {g : Nat} {s : List UInt8} (h : W.heap[g]? = some (.cells #[.string (strB s)] 9 (0, 0))) (hs : s.length ≤ 140737488355328) : RdS W (some ⟨g, 0, none⟩) 1 [s] := by
  refine ⟨Nat.le_refl _, by simp, (fun e => by cases e), fun t ht => ?_, fun ad had => ?_⟩
  · rw [show t = s by simpa using ht]; exact hs
  · cases had
    refine ⟨fun _ => rfl, fun i t hi => ?_⟩
    have : i = 0 := by have := (List.getElem?_eq_some_iff.1 hi).1; simpa using this
    subst this
    have : t = s := by simpa using hi.symm
    subst this
    exact cellOf (o := 0) h rfl
/-- A box that was just made is written. -/
theorem store_new {W : World} {x0 x1 x2 x3 x4 x5 : Value} (h : ∀ u ∈ [x0, x1, x2, x3, x4, x5], u.oneCell' = true) :
    (storeVar 26 ⟨W.heap.size, 0, none⟩ (.agg #[x0, x1, x2, x3, x4, x5])).run Tryz.prog (W.alloc (.cells #[.int .i64 0, .bool false, .int .i64 0, .string ⟨#[]⟩, .slice none 0 0, .slice none 0 0] 26)) = .ok () (W.alloc (.cells #[x0, x1, x2, x3, x4, x5] 26)) := by
  have hst := run_storeVar_row (P := Tryz.prog) (W.alloc (.cells #[.int .i64 0, .bool false, .int .i64 0, .string ⟨#[]⟩, .slice none 0 0, .slice none 0 0] 26)) W.heap.size 26 26 _ #[x0, x1, x2, x3, x4, x5] (heap_alloc_new W _) (by kernel_rfl) rfl (by simpa using h)
  rw [World.setRow_alloc_new] at hst
  exact hst
/-- A map of one key is made. -/
theorem map_made {w W : World} {s : List UInt8} {v : V} {c0 c1 c2 c3 c4 c5 : Value} (hs : s.length ≤ 140737488355328) (hv : VRd (W.alloc (.cells #[.string (strB s)] 9)) v #[c0, c1, c2, c3, c4, c5]) :
    Boxed w (((W.alloc (.cells #[.string (strB s)] 9)).alloc (.cells #[c0, c1, c2, c3, c4, c5] 26)).alloc (.cells #[.int .i64 5, .bool false, .int .i64 0, .string ⟨#[]⟩, .slice (some ⟨W.heap.size, 0, none⟩) 1 1, .slice (some ⟨W.heap.size + 1, 0, none⟩) 1 1] 26)) (W.heap.size + 1 + 1) (.mk 5 false 0 [] [s] [v])
      #[.int .i64 5, .bool false, .int .i64 0, .string ⟨#[]⟩, .slice (some ⟨W.heap.size, 0, none⟩) 1 1, .slice (some ⟨W.heap.size + 1, 0, none⟩) 1 1] := by
  have h1 := heap_alloc_new W (.cells #[.string (strB s)] 9)
  have e1 : (W.alloc (.cells #[.string (strB s)] 9)).heap.size = W.heap.size + 1 := by simp
  have b2 := below_new (w := W.alloc (.cells #[.string (strB s)] 9)) (.cells #[c0, c1, c2, c3, c4, c5] 26)
  have h2 := heap_alloc_new (W.alloc (.cells #[.string (strB s)] 9)) (.cells #[c0, c1, c2, c3, c4, c5] 26)
  rw [e1] at h2
  have r1 := (RdS.one h1 hs).below b2
  have r2 := LRd.one h2 (hv.below b2)
  have e2 : ((W.alloc (.cells #[.string (strB s)] 9)).alloc (.cells #[c0, c1, c2, c3, c4, c5] 26)).heap.size = W.heap.size + 1 + 1 := by simp
  generalize (W.alloc (.cells #[.string (strB s)] 9)).alloc (.cells #[c0, c1, c2, c3, c4, c5] 26) = W2 at *
  have h3 := heap_alloc_new W2 (.cells #[.int .i64 5, .bool false, .int .i64 0, .string ⟨#[]⟩, .slice (some ⟨W.heap.size, 0, none⟩) 1 1, .slice (some ⟨W.heap.size + 1, 0, none⟩) 1 1] 26)
  rw [e2] at h3
  exact ⟨h3, (VRd.mk' (v := .mk 5 false 0 [] [s] [v]) (by simp [V.text]) r1 r2).below (below_new _)⟩
theorem VRd_zero (W : World) : VRd W V0 #[.int .i64 0, .bool false, .int .i64 0, .string ⟨#[]⟩, .slice none 0 0, .slice none 0 0] := (own_zero W (fun _ => True)).rd (by simp [V0, totV, totVs])
/-- A row of nothings is made. -/
theorem make_vals (n : Nat) (hn : n ≤ 1000000) (w : World) :
    ∃ w', (Instr.makeSlice 24 (.int .i64 (n : Int)) (.int .i64 (n : Int))).run Tryz.prog w = .ok (.slice (some ⟨w.heap.size, 0, none⟩) n n) w' ∧ LRd w' (some ⟨w.heap.size, 0, none⟩) n (List.replicate n V0) ∧ w'.heap.size = w.heap.size + 1 ∧ Below w.heap.size w w' := by
  obtain ⟨i0, h1, h2, h3, h4⟩ := info_val
  have hr := run_makeSlice (P := Tryz.prog) (w := w) 24 26 i0 _ Tryz.underlying24 h1 h2 .i64 .i64 (n : Int) (n : Int) (by omega) (Int.le_refl _) (by rw [h3]; omega) (by rw [h4]; omega) (by omega)
  simp only [Int.toNat_natCast, h3] at hr
  refine ⟨_, hr, ⟨⟨by simp, ⟨by simp; omega, by omega⟩, fun e => by cases e⟩, fun ad had => ?_⟩, by simp, below_new _⟩
  cases had
  refine ⟨fun _ => rfl, fun j v hv => ?_⟩
  obtain ⟨hj, rfl⟩ := List.getElem?_eq_some_iff.1 hv
  have hj : j < n := by simpa using hj
  rw [List.getElem_replicate]
  have hh := heap_alloc_new w (.cells (madeCells (Value.agg #[.int .i64 0, .bool false, .int .i64 0, .string ⟨#[]⟩, .slice none 0 0, .slice none 0 0]).cells (n * 6)) 26)
  have hget : ∀ i u, i < 6 → (#[.int .i64 0, .bool false, .int .i64 0, .string ⟨#[]⟩, .slice none 0 0, .slice none 0 0] : Array Value)[i]? = some u → (madeCells (Value.agg #[.int .i64 0, .bool false, .int .i64 0, .string ⟨#[]⟩, .slice none 0 0, .slice none 0 0]).cells (n * 6))[0 + j * 6 + i]? = some u := by
    intro i u hi hu
    have h1 : 0 + j * 6 + i < n * 6 := by omega
    have h2 : (0 + j * 6 + i) % 6 = i := by omega
    unfold madeCells
    rw [Array.getElem?_map, Array.getElem?_range, if_pos h1, Option.map_some]
    show some ((#[.int .i64 0, .bool false, .int .i64 0, .string ⟨#[]⟩, .slice none 0 0, .slice none 0 0] : Array Value)[(0 + j * 6 + i) % 6]!) = some u
    rw [h2, getElem!_def, hu]
  exact ⟨_, ⟨_, _, _, _, _, _, rfl, cellOf hh (hget 0 _ (by omega) rfl), cellOf hh (hget 1 _ (by omega) rfl), cellOf hh (hget 2 _ (by omega) rfl), cellOf hh (hget 3 _ (by omega) rfl), cellOf hh (hget 4 _ (by omega) rfl), cellOf hh (hget 5 _ (by omega) rfl)⟩, VRd_zero _⟩
/-- A list of nothings is made. -/
theorem list_made {w W : World} {g n : Nat} (hl : LRd W (some ⟨g, 0, none⟩) n (List.replicate n V0)) :
    Boxed w (W.alloc (.cells #[.int .i64 4, .bool false, .int .i64 0, .string ⟨#[]⟩, .slice none 0 0, .slice (some ⟨g, 0, none⟩) n n] 26)) W.heap.size (longVl n) #[.int .i64 4, .bool false, .int .i64 0, .string ⟨#[]⟩, .slice none 0 0, .slice (some ⟨g, 0, none⟩) n n] := by
  have h := VRd.mk' (w := W) (v := longVl n) (pk := none) (ck := 0) (by simp [longVl, V.text]) ⟨by simp [longVl, V.keys], by simp [longVl, V.keys], fun _ => rfl, (fun s hs => by simp [longVl, V.keys] at hs), fun ad h => by cases h⟩ hl
  have e : (longVl n).list.length = n := by simp [longVl, V.list]
  rw [e] at h
  exact ⟨heap_alloc_new _ _, h.below (below_new _)⟩
/-- Bytes are made. -/
theorem make_bytes (n : Nat) (hn : n ≤ 1000000) (w : World) :
    ∃ w', (Instr.makeSlice 68 (.int .i64 (n : Int)) (.int .i64 (n : Int))).run Tryz.prog w = .ok (.slice (some ⟨w.heap.size, 0, none⟩) n n) w' ∧ Buf w w' (.slice (some ⟨w.heap.size, 0, none⟩) n n) (List.replicate n 0) ∧ w'.heap.size = w.heap.size + 1 ∧ Below w.heap.size w w' := by
  obtain ⟨i0, h1, h2, h3, h4⟩ := info_u8v
  have hr := run_makeSlice (P := Tryz.prog) (w := w) 68 5 i0 _ Tryz.underlying68 h1 h2 .i64 .i64 (n : Int) (n : Int) (by omega) (Int.le_refl _) (by rw [h3]; omega) (by rw [h4]; omega) (by omega)
  simp only [Int.toNat_natCast, h3, Nat.mul_one] at hr
  have hB := Buf.start (w := w) (W := w) (Below.refl _ _) (m := List.replicate n 0) (cs := madeCells (Value.int .u8 0).cells n) (by
    show (madeCells #[Value.int .u8 0] n).toList = _
    rw [toList_madeCells_one]; simp [byteV]) (by simpa using hn)
  rw [List.length_replicate] at hB
  exact ⟨_, hr, hB, by simp, below_new _⟩
/-- A loop's round: one list more. -/
theorem nest_step {w W : World} {m : Nat} {X : Array Value} (ho : VOwn W (fun b => w.heap.size < b) (nest m) X) (hb : W.heap[w.heap.size]? = some (.cells X 26 (0, 0))) (hw : Below w.heap.size w W) :
    ∃ W', (storeVar 26 ⟨w.heap.size, 0, none⟩ (.agg #[.int .i64 4, .bool false, .int .i64 0, .string ⟨#[]⟩, .slice none 0 0, .slice (some ⟨W.heap.size, 0, none⟩) 1 1])).run Tryz.prog (W.alloc (.cells X 26)) = .ok () W' ∧
      VOwn W' (fun b => w.heap.size < b) (nest (m + 1)) #[.int .i64 4, .bool false, .int .i64 0, .string ⟨#[]⟩, .slice none 0 0, .slice (some ⟨W.heap.size, 0, none⟩) 1 1] ∧
      W'.heap[w.heap.size]? = some (.cells #[.int .i64 4, .bool false, .int .i64 0, .string ⟨#[]⟩, .slice none 0 0, .slice (some ⟨W.heap.size, 0, none⟩) 1 1] 26 (0, 0)) ∧ Below w.heap.size w W' := by
  have hlt := (Array.getElem?_eq_some_iff.1 hb).1
  have hbn := below_new (w := W) (.cells X 26)
  have hn := heap_alloc_new W (.cells X 26)
  have h1 := belowBlk hbn hlt hb
  have o1 := ho.below hbn
  have w1 := below_trans hw hbn
  have hsz : (W.alloc (.cells X 26)).heap.size = W.heap.size + 1 := by simp
  have s6 := ho.size6
  generalize W.alloc (.cells X 26) = W1 at *
  generalize hY : (#[.int .i64 4, .bool false, .int .i64 0, .string ⟨#[]⟩, .slice none 0 0, .slice (some ⟨W.heap.size, 0, none⟩) 1 1] : Array Value) = Y at *
  have hst := run_storeVar_row (P := Tryz.prog) W1 w.heap.size 26 26 _ Y h1 (by rw [← hY]; kernel_rfl) (by rw [s6, ← hY]; rfl) (by rw [← hY]; simp [Value.oneCell'])
  have hoth := fun (b : Nat) (h : b ≠ w.heap.size) => setRow_other W1 w.heap.size b Y h
  have hT : Touch (fun q => q = w.heap.size) W1 (W1.setRow w.heap.size Y) := ⟨rfl, rfl, rfl, by simp, fun q _ hq => hoth q hq⟩
  refine ⟨_, hst, ?_, setRow_heap W1 _ _ _ _ _ h1, hT.below w1 (fun q hq e => by omega) w1.size⟩
  subst hY
  rw [nest_succ]
  have hg := (hoth W.heap.size (by omega)).trans hn
  refine VOwn_iff.2 ⟨_, _, rfl, ⟨⟨rfl, .inl ⟨rfl, rfl⟩⟩, fun g hg => by simp [Value.ownBlock] at hg⟩, [X], ⟨ownsRow_of_heap hg (Nat.le_refl _) (by unfold maxLen; omega) (by rw [s6]) ?_ (by simp [s6]), fun g hg => by cases hg; exact hlt⟩, ⟨X, [], rfl, o1.keep fun b hb _ => hoth b (by omega), rfl⟩⟩
  simp [List.take_of_length_le, s6]
end Go.Proofs.YtnkaegdnjfpliaaGreatDoor

/-! The law ValueBounds. Printed by gen_bnd.py. -/
namespace Go.Proofs.YtnkaegdnjfpliaaGreatDoor
set_option linter.unusedSimpArgs false
set_option linter.unusedVariables false
open Go.RowKit

theorem text_rd {ZZ : List UInt8} (W : World) (h : ZZ.length ≤ 140737488355328) : VRd W (.mk 3 false 0 ZZ [] []) #[.int .i64 3, .bool false, .int .i64 0, .string (strB ZZ), .slice none 0 0, .slice none 0 0] :=
  VRd.mk' (v := .mk 3 false 0 ZZ [] []) (pk := none) (pl := none) (ck := 0) (cl := 0) h ⟨by simp [V.keys], by simp [V.keys], fun _ => rfl, (fun s hs => by simp [V.keys] at hs), fun ad h => by cases h⟩ ⟨⟨by simp [V.list], by simp [V.list], fun _ => rfl⟩, fun ad h => by cases h⟩
theorem text_rdA {ZZ : List UInt8} (W : World) (h : ZZ.length + 1 ≤ 140737488355328) : VRd W (.mk 3 false 0 (ZZ ++ [97]) [] []) #[.int .i64 3, .bool false, .int .i64 0, .string (strB ZZ ++ strB [97]), .slice none 0 0, .slice none 0 0] := by
  rw [strB_append]; exact text_rd W (by simpa using h)
theorem three_below (W : World) (a b c : Obj) : Below W.heap.size W (((W.alloc a).alloc b).alloc c) := ((below_new _).alloc (by simp) _).alloc (by simp; omega) _
/-- The deepest value that stands. -/
def deepN : V := nest 63
/-- What lies while the law of bounds asks. -/
structure BndU (w : World) (p3 p4 p5 p8 p9 : Nat) (X1 X3 X4 X5 X8 X9 : Array Value) (ZZ : List UInt8) (W : World) : Prop where
  b : Below w.heap.size w W
  d1 : Boxed w W w.heap.size deepN X1
  d3 : Boxed w W (p3 + 1 + 1) overV X3
  d4 : Boxed w W p4 (longVl 65536) X4
  d5 : Boxed w W p5 (longVl 65537) X5
  d8 : Boxed w W (p8 + 1 + 1) (textVl ZZ ZZ) X8
  d9 : Boxed w W (p9 + 1 + 1) (textVl ZZ (ZZ ++ [97])) X9
section
variable {w : World} {p3 p4 p5 p8 p9 : Nat} {X1 X3 X4 X5 X8 X9 : Array Value} {ZZ : List UInt8} {W W' : World}
theorem BndU.keep (h : BndU w p3 p4 p5 p8 p9 X1 X3 X4 X5 X8 X9 ZZ W) (g : Below W.heap.size W W') : BndU w p3 p4 p5 p8 p9 X1 X3 X4 X5 X8 X9 ZZ W' :=
  ⟨below_trans h.b g, h.d1.below g, h.d3.below g, h.d4.below g, h.d5.below g, h.d8.below g, h.d9.below g⟩
theorem BndU.build {W0 W3 W4 W5 W6 W7 W8 W9 W10 : World} {X3 X4 X5 X8 X9 : Array Value} (h1 : Boxed w W0 w.heap.size deepN X1 ∧ Below w.heap.size w W0) (h3 : Boxed w W3 (W0.heap.size + 1 + 1) overV X3 ∧ Below W0.heap.size W0 W3)
    (h4 : Boxed w W5 W4.heap.size (longVl 65536) X4 ∧ Below W3.heap.size W3 W5 ∧ W3.heap.size < W4.heap.size) (h6 : Boxed w W7 W6.heap.size (longVl 65537) X5 ∧ Below W5.heap.size W5 W7) (hb : Below W7.heap.size W7 W8)
    (h8 : Boxed w W9 (W8.heap.size + 1 + 1) (.mk 5 false 0 [] [ZZ] [.mk 3 false 0 ZZ [] []]) X8 ∧ Below W8.heap.size W8 W9) (h9 : Boxed w W10 (W9.heap.size + 1 + 1) (.mk 5 false 0 [] [ZZ] [.mk 3 false 0 (ZZ ++ [97]) [] []]) X9 ∧ Below W9.heap.size W9 W10) :
    BndU w W0.heap.size W4.heap.size W6.heap.size W8.heap.size W9.heap.size X1 X3 X4 X5 X8 X9 ZZ W10 := by
  have b9 := h9.2
  have b8 := below_trans h8.2 b9
  have b7 := below_trans hb b8
  have b5 := below_trans h6.2 b7
  have b3 := below_trans h4.2.1 b5
  have b0 := below_trans h3.2 b3
  exact ⟨below_trans h1.2 b0, h1.1.below b0, h3.1.below b3, h4.1.below b5, h6.1.below b7, h8.1.below b9, h9.1⟩
theorem BndU.size (h : BndU w p3 p4 p5 p8 p9 X1 X3 X4 X5 X8 X9 ZZ W) (hE : Env w) : Calls Tryz.prog 50 #[.agg X1] W fun e w' => e = .returned (.tuple #[.int .i64 64, .int .i64 64]) ∧ BndU w p3 p4 p5 p8 p9 X1 X3 X4 X5 X8 X9 ZZ w' := by
  have hs : sizeF deepN = (64, 64) := by
    unfold sizeF okV deepN
    rw [check_nest, count_nest, deep_nest]; rfl
  refine (sizePub_any (hE.b h.b) h.d1.rd (by unfold deepN; rw [tot_nest]; omega)).mono fun _ _ h' => ?_
  rw [hs] at h'
  exact ⟨h'.1, h.keep h'.2⟩
theorem tot_over : totV overV = 67 := by unfold overV; rw [totV_mk, totVs, tot_nest]; rfl
theorem ok_over : okV overV = false := by unfold okV; rw [check_over]; rfl
theorem rng_nest : ∀ n, rngV (nest n) := by
  intro n
  induction n with
  | zero => exact rngV_mk.2 ⟨by omega, by simp [rngVs]⟩
  | succ n ih => rw [nest_succ]; exact rngV_mk.2 ⟨by omega, by simp [rngVs, ih]⟩
theorem rng_over : rngV overV := rngV_mk.2 ⟨by omega, by simp [rngVs, rng_nest]⟩
theorem BndU.text (h : BndU w p3 p4 p5 p8 p9 X1 X3 X4 X5 X8 X9 ZZ W) (hE : Env w) : Calls Tryz.prog 27 #[.agg X3] W fun e w' => e = .returned (.tuple #[.string ⟨#[]⟩, .int .i64 3]) ∧ BndU w p3 p4 p5 p8 p9 X1 X3 X4 X5 X8 X9 ZZ w' := by
  have hs : textF overV = ([], 3) := by unfold textF; rw [check_over]; rfl
  refine (text_any (hE.b h.b) h.d3.rd rng_over (by rw [tot_over]; omega)).mono fun _ _ h' => ?_
  rw [hs] at h'
  exact ⟨h'.1, h.keep h'.2⟩
theorem BndU.chk (h : BndU w p3 p4 p5 p8 p9 X1 X3 X4 X5 X8 X9 ZZ W) (hE : Env w) {v : V} {X : Array Value} (hv : VRd W v X) (ht : totV v ≤ 1099511627776) {c : Int} (hc : checkV Lib.validD v = c) : Calls Tryz.prog 45 #[.agg X] W fun e w' => e = .returned (.int .i64 c) ∧ BndU w p3 p4 p5 p8 p9 X1 X3 X4 X5 X8 X9 ZZ w' :=
  (check_ok (hE.b h.b) hv ht).mono fun _ _ h' => by rw [hc] at h'; exact ⟨h'.1, h.keep h'.2⟩
theorem BndU.k1 (h : BndU w p3 p4 p5 p8 p9 X1 X3 X4 X5 X8 X9 ZZ W) (hE : Env w) : Calls Tryz.prog 45 #[.agg X1] W fun e w' => e = .returned (.int .i64 0) ∧ BndU w p3 p4 p5 p8 p9 X1 X3 X4 X5 X8 X9 ZZ w' := h.chk hE h.d1.rd (by unfold deepN; rw [tot_nest]; omega) check_nest
theorem BndU.k3 (h : BndU w p3 p4 p5 p8 p9 X1 X3 X4 X5 X8 X9 ZZ W) (hE : Env w) : Calls Tryz.prog 45 #[.agg X3] W fun e w' => e = .returned (.int .i64 3) ∧ BndU w p3 p4 p5 p8 p9 X1 X3 X4 X5 X8 X9 ZZ w' := h.chk hE h.d3.rd (by rw [tot_over]; omega) check_over
theorem BndU.k4 (h : BndU w p3 p4 p5 p8 p9 X1 X3 X4 X5 X8 X9 ZZ W) (hE : Env w) : Calls Tryz.prog 45 #[.agg X4] W fun e w' => e = .returned (.int .i64 0) ∧ BndU w p3 p4 p5 p8 p9 X1 X3 X4 X5 X8 X9 ZZ w' := h.chk hE h.d4.rd (by rw [tot_long]; omega) (c := 0) (by rw [check_long _ (by omega), if_neg (by omega)])
theorem BndU.k5 (h : BndU w p3 p4 p5 p8 p9 X1 X3 X4 X5 X8 X9 ZZ W) (hE : Env w) : Calls Tryz.prog 45 #[.agg X5] W fun e w' => e = .returned (.int .i64 3) ∧ BndU w p3 p4 p5 p8 p9 X1 X3 X4 X5 X8 X9 ZZ w' := h.chk hE h.d5.rd (by rw [tot_long]; omega) (c := 3) (by rw [check_long _ (by omega), if_pos (by omega)])
theorem BndU.k8 (h : BndU w p3 p4 p5 p8 p9 X1 X3 X4 X5 X8 X9 ZZ W) (hE : Env w) (hl : ZZ.length = 524288) (hv : Lib.validD ZZ = true) : Calls Tryz.prog 45 #[.agg X8] W fun e w' => e = .returned (.int .i64 0) ∧ BndU w p3 p4 p5 p8 p9 X1 X3 X4 X5 X8 X9 ZZ w' := h.chk hE h.d8.rd (by rw [tot_text, hl]; omega) (c := 0) (by rw [check_text hv hv, hl, if_neg (by omega)])
theorem BndU.k9 (h : BndU w p3 p4 p5 p8 p9 X1 X3 X4 X5 X8 X9 ZZ W) (hE : Env w) (hl : ZZ.length = 524288) (hv : Lib.validD ZZ = true) (ha : Lib.validD (ZZ ++ [97]) = true) : Calls Tryz.prog 45 #[.agg X9] W fun e w' => e = .returned (.int .i64 3) ∧ BndU w p3 p4 p5 p8 p9 X1 X3 X4 X5 X8 X9 ZZ w' := h.chk hE h.d9.rd (by rw [tot_text, List.length_append, hl]; simp) (c := 3) (by rw [check_text hv ha, List.length_append, hl, if_pos (by simp)])
theorem BndU.cmp (h : BndU w p3 p4 p5 p8 p9 X1 X3 X4 X5 X8 X9 ZZ W) (hE : Env w) : Calls Tryz.prog 20 #[.agg X3, .agg #[.int .i64 0, .bool false, .int .i64 0, .string ⟨#[]⟩, .slice none 0 0, .slice none 0 0]] W fun e w' => e = .returned (.int .i64 0) ∧ BndU w p3 p4 p5 p8 p9 X1 X3 X4 X5 X8 X9 ZZ w' := by
  refine (comparePub_any (hE.b h.b) h.d3.rd (VRd_zero W) (by rw [tot_over]; have : totV V0 = 1 := rfl; omega)).mono fun _ _ h' => ?_
  rw [ok_over] at h'
  exact ⟨h'.1, h.keep h'.2⟩
theorem BndU.same (h : BndU w p3 p4 p5 p8 p9 X1 X3 X4 X5 X8 X9 ZZ W) (hE : Env w) : Calls Tryz.prog 21 #[.agg X3, .agg X3] W fun e w' => e = .returned (.bool false) ∧ BndU w p3 p4 p5 p8 p9 X1 X3 X4 X5 X8 X9 ZZ w' := by
  refine (same_any (hE.b h.b) h.d3.rd h.d3.rd (by rw [tot_over]; omega)).mono fun _ _ h' => ?_
  rw [ok_over] at h'
  exact ⟨h'.1, h.keep h'.2⟩
theorem BndU.stor (h : BndU w p3 p4 p5 p8 p9 X1 X3 X4 X5 X8 X9 ZZ W) (hE : Env w) : Calls Tryz.prog 53 #[.agg X5] W fun e w' => e = .returned (.bool false) ∧ BndU w p3 p4 p5 p8 p9 X1 X3 X4 X5 X8 X9 ZZ w' := by
  have ho : okV (longVl 65537) = false := by unfold okV; rw [check_long _ (by omega), if_pos (by omega)]; rfl
  refine (storable_any (hE.b h.b) h.d5.rd (by rw [tot_long]; omega)).mono fun _ _ h' => ?_
  rw [ho] at h'
  exact ⟨h'.1, h.keep h'.2⟩
theorem BndU.works (h : BndU w p3 p4 p5 p8 p9 X1 X3 X4 X5 X8 X9 ZZ W) (hE : Env w) : Calls Tryz.prog 16 #[] W fun e w' => e = .returned (.bool true) ∧ BndU w p3 p4 p5 p8 p9 X1 X3 X4 X5 X8 X9 ZZ w' :=
  (works_any (hE.b h.b)).mono fun _ _ h' => ⟨h'.1, h.keep h'.2⟩
theorem BndU.once {c0 c1 c2 c3 c4 c5 : Value} (h : BndU w p3 p4 p5 p8 p9 X1 #[c0, c1, c2, c3, c4, c5] X4 X5 X8 X9 ZZ W) (hE : Env w) : Calls Tryz.prog 49 #[.slice (some ⟨W.heap.size, 0, none⟩) 1 1] (W.alloc (.cells #[c0, c1, c2, c3, c4, c5] 26)) fun e w' => ∃ p c, e = .returned (.slice p 0 c) ∧ BndU w p3 p4 p5 p8 p9 X1 #[c0, c1, c2, c3, c4, c5] X4 X5 X8 X9 ZZ w' := by
  have hbn := below_new (w := W) (.cells #[c0, c1, c2, c3, c4, c5] 26)
  have h1 := h.keep hbn
  have hl := LRd.one (heap_alloc_new W (.cells #[c0, c1, c2, c3, c4, c5] 26)) h1.d3.rd
  refine (once_any (hE.b h1.b) hl (fun v hv => by rw [show v = overV by simpa using hv]; exact rng_over) (by simp [totVs, tot_over])).mono ?_
  rintro e w' ⟨vl, rfl, ho, hb⟩
  have hf : fineL [overV] = false := by simp [fineL, ok_over]
  rw [hf] at ho
  obtain ⟨xs, h2, _⟩ := ho
  have hs : ∃ p c, vl = .slice p 0 c := by
    rcases h2.1.2 with ⟨e1, _⟩ | ⟨g, cap, cur, e1, _⟩
    · exact ⟨none, 0, e1⟩
    · exact ⟨_, _, e1⟩
  obtain ⟨p, c, rfl⟩ := hs
  exact ⟨p, c, rfl, h1.keep hb⟩
end
set_option maxRecDepth 100000 in
set_option maxHeartbeats 8000000 in
theorem bounds_law {w : World} (hE : Env w) :
    Calls Tryz.prog 14 #[] w fun e w' => e = .returned (.bool true) ∧ Below w.heap.size w w' := by
  have HE := Lib.hid hE
  clear hE
  have HI0 : Hid (∃ X, VOwn (w.alloc (.cells #[.int .i64 0, .bool false, .int .i64 0, .string ⟨#[]⟩, .slice none 0 0, .slice none 0 0] 26)) (fun b => w.heap.size < b) (nest 0) X ∧
      (w.alloc (.cells #[.int .i64 0, .bool false, .int .i64 0, .string ⟨#[]⟩, .slice none 0 0, .slice none 0 0] 26)).heap[w.heap.size]? = some (.cells X 26 (0, 0)) ∧
      Below w.heap.size w (w.alloc (.cells #[.int .i64 0, .bool false, .int .i64 0, .string ⟨#[]⟩, .slice none 0 0, .slice none 0 0] 26))) :=
    Lib.hid ⟨_, own_zero _ _, heap_alloc_new _ _, below_new _⟩
  have HS0 := Lib.hid (store_new (W := w) (x0 := .int .i64 0) (x1 := .bool false) (x2 := .int .i64 0) (x3 := .string ⟨#[]⟩) (x4 := .slice none 0 0) (x5 := .slice none 0 0) (by simp [Value.oneCell']))
  go_enter Tryz.func14, Tryz.ntmps14
  go_wp2_with (refine wpList_store rfl _ _ _ _ rfl rfl rfl HS0.out ?_)
  clear HS0
  generalize w.alloc (.cells #[.int .i64 0, .bool false, .int .i64 0, .string ⟨#[]⟩, .slice none 0 0, .slice none 0 0] 26) = W0 at *
  go_loopw [2] (fun i wr => ∃ m : Nat, m ≤ 63 ∧ i = .int .i64 ((m : Int) + 1) ∧ Hid (∃ X, VOwn wr (fun b => w.heap.size < b) (nest m) X ∧ wr.heap[w.heap.size]? = some (.cells X 26 (0, 0)) ∧ Below w.heap.size w wr)) (fun i _ => 64 - (intOf i).toNat)
  case atStart => exact ⟨0, Nat.zero_le _, rfl, HI0⟩
  case round =>
    clear HI0
    obtain ⟨m, hm, rfl, HI⟩ := hrel
    obtain ⟨X, ho, hb, hw⟩ := HI.out
    have htn := tot_nest m
    by_cases hlt : m < 63
    · have hlt1 : m + 1 ≤ 63 := hlt
      obtain ⟨pk1, ck1, pl1, cl1, rfl, _⟩ := (ho.rd (by omega)).open
      obtain ⟨W', st, o2, b2, w2⟩ := nest_step ho hb hw
      have HL := Lib.hid (get_val hb)
      have HS := Lib.hid st
      have HN := Lib.hid (show ∃ X, VOwn W' (fun b => w.heap.size < b) (nest (m + 1)) X ∧ W'.heap[w.heap.size]? = some (.cells X 26 (0, 0)) ∧ Below w.heap.size w W' from ⟨_, o2, b2, w2⟩)
      clear ho hb hw st o2 b2 w2 htn HI
      go_wp2_with (first
        | (refine wpList_load rfl _ _ _ rfl rfl HL.out ?_)
        | (refine wpList_store rfl _ _ _ _ rfl rfl rfl HS.out ?_))
      go_roundw
      case rel => exact ⟨m + 1, hlt1, by go_num, HN⟩
      case measure => simp [intOf]; omega
    · obtain rfl : m = 63 := by omega
      have ho : VOwn wr (fun b => w.heap.size < b) deepN X := ho
      have hrd := ho.rd (by unfold deepN; omega)
      obtain ⟨pk1, ck1, pl1, cl1, rfl, _⟩ := hrd.open
      have hbk := below_new (w := wr) (.cells #[.string (strB [107])] 9)
      have HL1 := Lib.hid (get_val (belowBlk hbk (Array.getElem?_eq_some_iff.1 hb).1 hb))
      have HB1 := Lib.hid (And.intro (Boxed.mk (w := w) hb hrd) hw)
      have hs3 := store_new (W := (wr.alloc (.cells #[.string (strB [107])] 9)).alloc (.cells #[.int .i64 deepN.kind, .bool deepN.b, .int .i64 deepN.n, .string (strB deepN.text), .slice pk1 deepN.keys.length ck1, .slice pl1 deepN.list.length cl1] 26)) (x0 := .int .i64 5) (x1 := .bool false) (x2 := .int .i64 0) (x3 := .string ⟨#[]⟩) (x4 := .slice (some ⟨wr.heap.size, 0, none⟩) 1 1) (x5 := .slice (some ⟨wr.heap.size + 1, 0, none⟩) 1 1) (by simp [Value.oneCell'])
      simp only [World.size_alloc] at hs3
      have HS3 := Lib.hid hs3
      clear hs3
      have HB3 := Lib.hid (And.intro (map_made (w := w) (W := wr) (s := [107]) (v := deepN) (by simp) (hrd.below hbk)) (three_below wr (.cells #[.string (strB [107])] 9) (.cells #[.int .i64 deepN.kind, .bool deepN.b, .int .i64 deepN.n, .string (strB deepN.text), .slice pk1 deepN.keys.length ck1, .slice pl1 deepN.list.length cl1] 26) (.cells #[.int .i64 5, .bool false, .int .i64 0, .string ⟨#[]⟩, .slice (some ⟨wr.heap.size, 0, none⟩) 1 1, .slice (some ⟨wr.heap.size + 1, 0, none⟩) 1 1] 26)))
      clear ho hb hw hbk htn HI hrd
      go_wp2_with (first
        | (refine wpList_load rfl _ _ _ rfl rfl HL1.out ?_; clear HL1)
        | (refine wpList_store rfl _ _ _ _ rfl rfl rfl HS3.out ?_
           (
            clear HS3
            generalize HG : ((wr.alloc _).alloc _).alloc _ = W3 at *
            clear HG
            obtain ⟨W4, hm4, hl4, hz4, hb4⟩ := make_vals 65536 (by omega) W3
            have HM4 := Lib.hid (show (Instr.makeSlice 24 (.int .i64 65536) (.int .i64 65536)).run Tryz.prog W3 = .ok (.slice (some ⟨W3.heap.size, 0, none⟩) 65536 65536) W4 from hm4)
            have HS4 := Lib.hid (store_new (W := W4) (x0 := .int .i64 4) (x1 := .bool false) (x2 := .int .i64 0) (x3 := .string ⟨#[]⟩) (x4 := .slice none 0 0) (x5 := .slice (some ⟨W3.heap.size, 0, none⟩) 65536 65536) (by simp [Value.oneCell']))
            have HB4 := Lib.hid (And.intro (list_made (w := w) hl4) (And.intro (below_trans hb4 (below_new (w := W4) (.cells #[.int .i64 4, .bool false, .int .i64 0, .string ⟨#[]⟩, .slice none 0 0, .slice (some ⟨W3.heap.size, 0, none⟩) 65536 65536] 26))) (show W3.heap.size < W4.heap.size by omega)))
            clear hm4 hl4 hz4 hb4))
        | (refine wpList_run rfl (exec_makeSlice rfl rfl rfl HM4.out) ?_; clear HM4)
        | (refine wpList_store rfl _ _ _ _ rfl rfl rfl HS4.out ?_
           (
            clear HS4
            generalize HG : W4.alloc (.cells #[.int .i64 4, .bool false, .int .i64 0, .string ⟨#[]⟩, .slice none 0 0, .slice (some ⟨W3.heap.size, 0, none⟩) 65536 65536] 26) = W5 at *
            clear HG
            obtain ⟨W6, hm6, hl6, hz6, hb6⟩ := make_vals 65537 (by omega) W5
            have HM6 := Lib.hid (show (Instr.makeSlice 24 (.int .i64 65537) (.int .i64 65537)).run Tryz.prog W5 = .ok (.slice (some ⟨W5.heap.size, 0, none⟩) 65537 65537) W6 from hm6)
            have HS6 := Lib.hid (store_new (W := W6) (x0 := .int .i64 4) (x1 := .bool false) (x2 := .int .i64 0) (x3 := .string ⟨#[]⟩) (x4 := .slice none 0 0) (x5 := .slice (some ⟨W5.heap.size, 0, none⟩) 65537 65537) (by simp [Value.oneCell']))
            have HB6 := Lib.hid (And.intro (list_made (w := w) hl6) (below_trans hb6 (below_new (w := W6) (.cells #[.int .i64 4, .bool false, .int .i64 0, .string ⟨#[]⟩, .slice none 0 0, .slice (some ⟨W5.heap.size, 0, none⟩) 65537 65537] 26))))
            clear hm6 hl6 hz6 hb6))
        | (refine wpList_run rfl (exec_makeSlice rfl rfl rfl HM6.out) ?_; clear HM6)
        | (refine wpList_store rfl _ _ _ _ rfl rfl rfl HS6.out ?_
           (
            clear HS6
            generalize HG : W6.alloc (.cells #[.int .i64 4, .bool false, .int .i64 0, .string ⟨#[]⟩, .slice none 0 0, .slice (some ⟨W5.heap.size, 0, none⟩) 65537 65537] 26) = W7 at *
            clear HG
            obtain ⟨W8, hm8, hB8, hz8, hb8⟩ := make_bytes 524288 (by omega) W7
            have HM8 := Lib.hid (show (Instr.makeSlice 68 (.int .i64 524288) (.int .i64 524288)).run Tryz.prog W7 = .ok (.slice (some ⟨W7.heap.size, 0, none⟩) 524288 524288) W8 from hm8)
            have hC8 := hB8.str
            have hlZ : (List.replicate 524288 (0 : UInt8)).length = 524288 := List.length_replicate
            have hvZ := valid_zeros 524288
            have hvA := valid_zerosA 524288
            generalize List.replicate 524288 (0 : UInt8) = ZZ at *
            have HC8 := Lib.hid hC8
            have zZ : (strB ZZ).size = ZZ.length := rfl
            have zZ2 : (ZZ.length : Int) ≤ 1000000 := by omega
            have hs8 := store_new (W := (W8.alloc (.cells #[.string (strB ZZ)] 9)).alloc (.cells #[.int .i64 3, .bool false, .int .i64 0, .string (strB ZZ), .slice none 0 0, .slice none 0 0] 26)) (x0 := .int .i64 5) (x1 := .bool false) (x2 := .int .i64 0) (x3 := .string ⟨#[]⟩) (x4 := .slice (some ⟨W8.heap.size, 0, none⟩) 1 1) (x5 := .slice (some ⟨W8.heap.size + 1, 0, none⟩) 1 1) (by simp [Value.oneCell'])
            simp only [World.size_alloc] at hs8
            have HS8 := Lib.hid hs8
            clear hs8
            have HB8 := Lib.hid (And.intro (map_made (w := w) (W := W8) (s := ZZ) (v := .mk 3 false 0 ZZ [] []) (by omega) (text_rd _ (by omega))) (three_below W8 (.cells #[.string (strB ZZ)] 9) (.cells #[.int .i64 3, .bool false, .int .i64 0, .string (strB ZZ), .slice none 0 0, .slice none 0 0] 26) (.cells #[.int .i64 5, .bool false, .int .i64 0, .string ⟨#[]⟩, .slice (some ⟨W8.heap.size, 0, none⟩) 1 1, .slice (some ⟨W8.heap.size + 1, 0, none⟩) 1 1] 26)))
            have HZ := Lib.hid (And.intro hlZ (And.intro hvZ (And.intro hvA hb8)))
            clear hm8 hB8 hz8 hb8 hC8 hlZ hvZ hvA))
        | (refine wpList_run rfl (exec_makeSlice rfl rfl rfl HM8.out) ?_; clear HM8)
        | (refine wpList_run rfl (exec_convert rfl rfl HC8.out) ?_; clear HC8)
        | (refine wpList_store rfl _ _ _ _ rfl rfl rfl HS8.out ?_
           (
            clear HS8
            generalize HG : ((W8.alloc _).alloc _).alloc _ = W9 at *
            clear HG
            have hs9 := store_new (W := (W9.alloc (.cells #[.string (strB ZZ)] 9)).alloc (.cells #[.int .i64 3, .bool false, .int .i64 0, .string (strB ZZ ++ strB [97]), .slice none 0 0, .slice none 0 0] 26)) (x0 := .int .i64 5) (x1 := .bool false) (x2 := .int .i64 0) (x3 := .string ⟨#[]⟩) (x4 := .slice (some ⟨W9.heap.size, 0, none⟩) 1 1) (x5 := .slice (some ⟨W9.heap.size + 1, 0, none⟩) 1 1) (by simp [Value.oneCell'])
            simp only [World.size_alloc] at hs9
            have HS9 := Lib.hid hs9
            clear hs9
            have HB9 := Lib.hid (And.intro (map_made (w := w) (W := W9) (s := ZZ) (v := .mk 3 false 0 (ZZ ++ [97]) [] []) (by have := HZ.out.1; omega) (text_rdA _ (by have := HZ.out.1; omega))) (three_below W9 (.cells #[.string (strB ZZ)] 9) (.cells #[.int .i64 3, .bool false, .int .i64 0, .string (strB ZZ ++ strB [97]), .slice none 0 0, .slice none 0 0] 26) (.cells #[.int .i64 5, .bool false, .int .i64 0, .string ⟨#[]⟩, .slice (some ⟨W9.heap.size, 0, none⟩) 1 1, .slice (some ⟨W9.heap.size + 1, 0, none⟩) 1 1] 26)))))
        | (refine wpList_store rfl _ _ _ _ rfl rfl rfl HS9.out ?_
           (
            clear HS9
            generalize HG : ((W9.alloc _).alloc _).alloc _ = W10 at *
            clear HG
            have hU : BndU w wr.heap.size W4.heap.size W6.heap.size W8.heap.size W9.heap.size #[.int .i64 deepN.kind, .bool deepN.b, .int .i64 deepN.n, .string (strB deepN.text), .slice pk1 deepN.keys.length ck1, .slice pl1 deepN.list.length cl1] #[.int .i64 5, .bool false, .int .i64 0, .string ⟨#[]⟩, .slice (some ⟨wr.heap.size, 0, none⟩) 1 1, .slice (some ⟨wr.heap.size + 1, 0, none⟩) 1 1] #[.int .i64 4, .bool false, .int .i64 0, .string ⟨#[]⟩, .slice none 0 0, .slice (some ⟨W3.heap.size, 0, none⟩) 65536 65536] #[.int .i64 4, .bool false, .int .i64 0, .string ⟨#[]⟩, .slice none 0 0, .slice (some ⟨W5.heap.size, 0, none⟩) 65537 65537] #[.int .i64 5, .bool false, .int .i64 0, .string ⟨#[]⟩, .slice (some ⟨W8.heap.size, 0, none⟩) 1 1, .slice (some ⟨W8.heap.size + 1, 0, none⟩) 1 1] #[.int .i64 5, .bool false, .int .i64 0, .string ⟨#[]⟩, .slice (some ⟨W9.heap.size, 0, none⟩) 1 1, .slice (some ⟨W9.heap.size + 1, 0, none⟩) 1 1] ZZ W10 := BndU.build HB1.out HB3.out HB4.out HB6.out HZ.out.2.2.2 HB8.out HB9.out
            have HU := Lib.hid hU
            clear hU HB1 HB3 HB4 HB6 HB8 HB9
            have HSZ := Lib.hid (fun (W : World) (h : BndU w wr.heap.size W4.heap.size W6.heap.size W8.heap.size W9.heap.size #[.int .i64 deepN.kind, .bool deepN.b, .int .i64 deepN.n, .string (strB deepN.text), .slice pk1 deepN.keys.length ck1, .slice pl1 deepN.list.length cl1] #[.int .i64 5, .bool false, .int .i64 0, .string ⟨#[]⟩, .slice (some ⟨wr.heap.size, 0, none⟩) 1 1, .slice (some ⟨wr.heap.size + 1, 0, none⟩) 1 1] #[.int .i64 4, .bool false, .int .i64 0, .string ⟨#[]⟩, .slice none 0 0, .slice (some ⟨W3.heap.size, 0, none⟩) 65536 65536] #[.int .i64 4, .bool false, .int .i64 0, .string ⟨#[]⟩, .slice none 0 0, .slice (some ⟨W5.heap.size, 0, none⟩) 65537 65537] #[.int .i64 5, .bool false, .int .i64 0, .string ⟨#[]⟩, .slice (some ⟨W8.heap.size, 0, none⟩) 1 1, .slice (some ⟨W8.heap.size + 1, 0, none⟩) 1 1] #[.int .i64 5, .bool false, .int .i64 0, .string ⟨#[]⟩, .slice (some ⟨W9.heap.size, 0, none⟩) 1 1, .slice (some ⟨W9.heap.size + 1, 0, none⟩) 1 1] ZZ W) => h.size HE.out)
            have HTX := Lib.hid (fun (W : World) (h : BndU w wr.heap.size W4.heap.size W6.heap.size W8.heap.size W9.heap.size #[.int .i64 deepN.kind, .bool deepN.b, .int .i64 deepN.n, .string (strB deepN.text), .slice pk1 deepN.keys.length ck1, .slice pl1 deepN.list.length cl1] #[.int .i64 5, .bool false, .int .i64 0, .string ⟨#[]⟩, .slice (some ⟨wr.heap.size, 0, none⟩) 1 1, .slice (some ⟨wr.heap.size + 1, 0, none⟩) 1 1] #[.int .i64 4, .bool false, .int .i64 0, .string ⟨#[]⟩, .slice none 0 0, .slice (some ⟨W3.heap.size, 0, none⟩) 65536 65536] #[.int .i64 4, .bool false, .int .i64 0, .string ⟨#[]⟩, .slice none 0 0, .slice (some ⟨W5.heap.size, 0, none⟩) 65537 65537] #[.int .i64 5, .bool false, .int .i64 0, .string ⟨#[]⟩, .slice (some ⟨W8.heap.size, 0, none⟩) 1 1, .slice (some ⟨W8.heap.size + 1, 0, none⟩) 1 1] #[.int .i64 5, .bool false, .int .i64 0, .string ⟨#[]⟩, .slice (some ⟨W9.heap.size, 0, none⟩) 1 1, .slice (some ⟨W9.heap.size + 1, 0, none⟩) 1 1] ZZ W) => h.text HE.out)
            have HK0 := Lib.hid (fun (W : World) (h : BndU w wr.heap.size W4.heap.size W6.heap.size W8.heap.size W9.heap.size #[.int .i64 deepN.kind, .bool deepN.b, .int .i64 deepN.n, .string (strB deepN.text), .slice pk1 deepN.keys.length ck1, .slice pl1 deepN.list.length cl1] #[.int .i64 5, .bool false, .int .i64 0, .string ⟨#[]⟩, .slice (some ⟨wr.heap.size, 0, none⟩) 1 1, .slice (some ⟨wr.heap.size + 1, 0, none⟩) 1 1] #[.int .i64 4, .bool false, .int .i64 0, .string ⟨#[]⟩, .slice none 0 0, .slice (some ⟨W3.heap.size, 0, none⟩) 65536 65536] #[.int .i64 4, .bool false, .int .i64 0, .string ⟨#[]⟩, .slice none 0 0, .slice (some ⟨W5.heap.size, 0, none⟩) 65537 65537] #[.int .i64 5, .bool false, .int .i64 0, .string ⟨#[]⟩, .slice (some ⟨W8.heap.size, 0, none⟩) 1 1, .slice (some ⟨W8.heap.size + 1, 0, none⟩) 1 1] #[.int .i64 5, .bool false, .int .i64 0, .string ⟨#[]⟩, .slice (some ⟨W9.heap.size, 0, none⟩) 1 1, .slice (some ⟨W9.heap.size + 1, 0, none⟩) 1 1] ZZ W) => h.k1 HE.out)
            have HK1 := Lib.hid (fun (W : World) (h : BndU w wr.heap.size W4.heap.size W6.heap.size W8.heap.size W9.heap.size #[.int .i64 deepN.kind, .bool deepN.b, .int .i64 deepN.n, .string (strB deepN.text), .slice pk1 deepN.keys.length ck1, .slice pl1 deepN.list.length cl1] #[.int .i64 5, .bool false, .int .i64 0, .string ⟨#[]⟩, .slice (some ⟨wr.heap.size, 0, none⟩) 1 1, .slice (some ⟨wr.heap.size + 1, 0, none⟩) 1 1] #[.int .i64 4, .bool false, .int .i64 0, .string ⟨#[]⟩, .slice none 0 0, .slice (some ⟨W3.heap.size, 0, none⟩) 65536 65536] #[.int .i64 4, .bool false, .int .i64 0, .string ⟨#[]⟩, .slice none 0 0, .slice (some ⟨W5.heap.size, 0, none⟩) 65537 65537] #[.int .i64 5, .bool false, .int .i64 0, .string ⟨#[]⟩, .slice (some ⟨W8.heap.size, 0, none⟩) 1 1, .slice (some ⟨W8.heap.size + 1, 0, none⟩) 1 1] #[.int .i64 5, .bool false, .int .i64 0, .string ⟨#[]⟩, .slice (some ⟨W9.heap.size, 0, none⟩) 1 1, .slice (some ⟨W9.heap.size + 1, 0, none⟩) 1 1] ZZ W) => h.k3 HE.out)
            have HK2 := Lib.hid (fun (W : World) (h : BndU w wr.heap.size W4.heap.size W6.heap.size W8.heap.size W9.heap.size #[.int .i64 deepN.kind, .bool deepN.b, .int .i64 deepN.n, .string (strB deepN.text), .slice pk1 deepN.keys.length ck1, .slice pl1 deepN.list.length cl1] #[.int .i64 5, .bool false, .int .i64 0, .string ⟨#[]⟩, .slice (some ⟨wr.heap.size, 0, none⟩) 1 1, .slice (some ⟨wr.heap.size + 1, 0, none⟩) 1 1] #[.int .i64 4, .bool false, .int .i64 0, .string ⟨#[]⟩, .slice none 0 0, .slice (some ⟨W3.heap.size, 0, none⟩) 65536 65536] #[.int .i64 4, .bool false, .int .i64 0, .string ⟨#[]⟩, .slice none 0 0, .slice (some ⟨W5.heap.size, 0, none⟩) 65537 65537] #[.int .i64 5, .bool false, .int .i64 0, .string ⟨#[]⟩, .slice (some ⟨W8.heap.size, 0, none⟩) 1 1, .slice (some ⟨W8.heap.size + 1, 0, none⟩) 1 1] #[.int .i64 5, .bool false, .int .i64 0, .string ⟨#[]⟩, .slice (some ⟨W9.heap.size, 0, none⟩) 1 1, .slice (some ⟨W9.heap.size + 1, 0, none⟩) 1 1] ZZ W) => h.k4 HE.out)
            have HK3 := Lib.hid (fun (W : World) (h : BndU w wr.heap.size W4.heap.size W6.heap.size W8.heap.size W9.heap.size #[.int .i64 deepN.kind, .bool deepN.b, .int .i64 deepN.n, .string (strB deepN.text), .slice pk1 deepN.keys.length ck1, .slice pl1 deepN.list.length cl1] #[.int .i64 5, .bool false, .int .i64 0, .string ⟨#[]⟩, .slice (some ⟨wr.heap.size, 0, none⟩) 1 1, .slice (some ⟨wr.heap.size + 1, 0, none⟩) 1 1] #[.int .i64 4, .bool false, .int .i64 0, .string ⟨#[]⟩, .slice none 0 0, .slice (some ⟨W3.heap.size, 0, none⟩) 65536 65536] #[.int .i64 4, .bool false, .int .i64 0, .string ⟨#[]⟩, .slice none 0 0, .slice (some ⟨W5.heap.size, 0, none⟩) 65537 65537] #[.int .i64 5, .bool false, .int .i64 0, .string ⟨#[]⟩, .slice (some ⟨W8.heap.size, 0, none⟩) 1 1, .slice (some ⟨W8.heap.size + 1, 0, none⟩) 1 1] #[.int .i64 5, .bool false, .int .i64 0, .string ⟨#[]⟩, .slice (some ⟨W9.heap.size, 0, none⟩) 1 1, .slice (some ⟨W9.heap.size + 1, 0, none⟩) 1 1] ZZ W) => h.k5 HE.out)
            have HK4 := Lib.hid (fun (W : World) (h : BndU w wr.heap.size W4.heap.size W6.heap.size W8.heap.size W9.heap.size #[.int .i64 deepN.kind, .bool deepN.b, .int .i64 deepN.n, .string (strB deepN.text), .slice pk1 deepN.keys.length ck1, .slice pl1 deepN.list.length cl1] #[.int .i64 5, .bool false, .int .i64 0, .string ⟨#[]⟩, .slice (some ⟨wr.heap.size, 0, none⟩) 1 1, .slice (some ⟨wr.heap.size + 1, 0, none⟩) 1 1] #[.int .i64 4, .bool false, .int .i64 0, .string ⟨#[]⟩, .slice none 0 0, .slice (some ⟨W3.heap.size, 0, none⟩) 65536 65536] #[.int .i64 4, .bool false, .int .i64 0, .string ⟨#[]⟩, .slice none 0 0, .slice (some ⟨W5.heap.size, 0, none⟩) 65537 65537] #[.int .i64 5, .bool false, .int .i64 0, .string ⟨#[]⟩, .slice (some ⟨W8.heap.size, 0, none⟩) 1 1, .slice (some ⟨W8.heap.size + 1, 0, none⟩) 1 1] #[.int .i64 5, .bool false, .int .i64 0, .string ⟨#[]⟩, .slice (some ⟨W9.heap.size, 0, none⟩) 1 1, .slice (some ⟨W9.heap.size + 1, 0, none⟩) 1 1] ZZ W) => h.k8 HE.out HZ.out.1 HZ.out.2.1)
            have HK5 := Lib.hid (fun (W : World) (h : BndU w wr.heap.size W4.heap.size W6.heap.size W8.heap.size W9.heap.size #[.int .i64 deepN.kind, .bool deepN.b, .int .i64 deepN.n, .string (strB deepN.text), .slice pk1 deepN.keys.length ck1, .slice pl1 deepN.list.length cl1] #[.int .i64 5, .bool false, .int .i64 0, .string ⟨#[]⟩, .slice (some ⟨wr.heap.size, 0, none⟩) 1 1, .slice (some ⟨wr.heap.size + 1, 0, none⟩) 1 1] #[.int .i64 4, .bool false, .int .i64 0, .string ⟨#[]⟩, .slice none 0 0, .slice (some ⟨W3.heap.size, 0, none⟩) 65536 65536] #[.int .i64 4, .bool false, .int .i64 0, .string ⟨#[]⟩, .slice none 0 0, .slice (some ⟨W5.heap.size, 0, none⟩) 65537 65537] #[.int .i64 5, .bool false, .int .i64 0, .string ⟨#[]⟩, .slice (some ⟨W8.heap.size, 0, none⟩) 1 1, .slice (some ⟨W8.heap.size + 1, 0, none⟩) 1 1] #[.int .i64 5, .bool false, .int .i64 0, .string ⟨#[]⟩, .slice (some ⟨W9.heap.size, 0, none⟩) 1 1, .slice (some ⟨W9.heap.size + 1, 0, none⟩) 1 1] ZZ W) => h.k9 HE.out HZ.out.1 HZ.out.2.1 HZ.out.2.2.1)
            have HCM := Lib.hid (fun (W : World) (h : BndU w wr.heap.size W4.heap.size W6.heap.size W8.heap.size W9.heap.size #[.int .i64 deepN.kind, .bool deepN.b, .int .i64 deepN.n, .string (strB deepN.text), .slice pk1 deepN.keys.length ck1, .slice pl1 deepN.list.length cl1] #[.int .i64 5, .bool false, .int .i64 0, .string ⟨#[]⟩, .slice (some ⟨wr.heap.size, 0, none⟩) 1 1, .slice (some ⟨wr.heap.size + 1, 0, none⟩) 1 1] #[.int .i64 4, .bool false, .int .i64 0, .string ⟨#[]⟩, .slice none 0 0, .slice (some ⟨W3.heap.size, 0, none⟩) 65536 65536] #[.int .i64 4, .bool false, .int .i64 0, .string ⟨#[]⟩, .slice none 0 0, .slice (some ⟨W5.heap.size, 0, none⟩) 65537 65537] #[.int .i64 5, .bool false, .int .i64 0, .string ⟨#[]⟩, .slice (some ⟨W8.heap.size, 0, none⟩) 1 1, .slice (some ⟨W8.heap.size + 1, 0, none⟩) 1 1] #[.int .i64 5, .bool false, .int .i64 0, .string ⟨#[]⟩, .slice (some ⟨W9.heap.size, 0, none⟩) 1 1, .slice (some ⟨W9.heap.size + 1, 0, none⟩) 1 1] ZZ W) => h.cmp HE.out)
            have HSA := Lib.hid (fun (W : World) (h : BndU w wr.heap.size W4.heap.size W6.heap.size W8.heap.size W9.heap.size #[.int .i64 deepN.kind, .bool deepN.b, .int .i64 deepN.n, .string (strB deepN.text), .slice pk1 deepN.keys.length ck1, .slice pl1 deepN.list.length cl1] #[.int .i64 5, .bool false, .int .i64 0, .string ⟨#[]⟩, .slice (some ⟨wr.heap.size, 0, none⟩) 1 1, .slice (some ⟨wr.heap.size + 1, 0, none⟩) 1 1] #[.int .i64 4, .bool false, .int .i64 0, .string ⟨#[]⟩, .slice none 0 0, .slice (some ⟨W3.heap.size, 0, none⟩) 65536 65536] #[.int .i64 4, .bool false, .int .i64 0, .string ⟨#[]⟩, .slice none 0 0, .slice (some ⟨W5.heap.size, 0, none⟩) 65537 65537] #[.int .i64 5, .bool false, .int .i64 0, .string ⟨#[]⟩, .slice (some ⟨W8.heap.size, 0, none⟩) 1 1, .slice (some ⟨W8.heap.size + 1, 0, none⟩) 1 1] #[.int .i64 5, .bool false, .int .i64 0, .string ⟨#[]⟩, .slice (some ⟨W9.heap.size, 0, none⟩) 1 1, .slice (some ⟨W9.heap.size + 1, 0, none⟩) 1 1] ZZ W) => h.same HE.out)
            have HON := Lib.hid (fun (W : World) (h : BndU w wr.heap.size W4.heap.size W6.heap.size W8.heap.size W9.heap.size #[.int .i64 deepN.kind, .bool deepN.b, .int .i64 deepN.n, .string (strB deepN.text), .slice pk1 deepN.keys.length ck1, .slice pl1 deepN.list.length cl1] #[.int .i64 5, .bool false, .int .i64 0, .string ⟨#[]⟩, .slice (some ⟨wr.heap.size, 0, none⟩) 1 1, .slice (some ⟨wr.heap.size + 1, 0, none⟩) 1 1] #[.int .i64 4, .bool false, .int .i64 0, .string ⟨#[]⟩, .slice none 0 0, .slice (some ⟨W3.heap.size, 0, none⟩) 65536 65536] #[.int .i64 4, .bool false, .int .i64 0, .string ⟨#[]⟩, .slice none 0 0, .slice (some ⟨W5.heap.size, 0, none⟩) 65537 65537] #[.int .i64 5, .bool false, .int .i64 0, .string ⟨#[]⟩, .slice (some ⟨W8.heap.size, 0, none⟩) 1 1, .slice (some ⟨W8.heap.size + 1, 0, none⟩) 1 1] #[.int .i64 5, .bool false, .int .i64 0, .string ⟨#[]⟩, .slice (some ⟨W9.heap.size, 0, none⟩) 1 1, .slice (some ⟨W9.heap.size + 1, 0, none⟩) 1 1] ZZ W) => h.once HE.out)
            have HST := Lib.hid (fun (W : World) (h : BndU w wr.heap.size W4.heap.size W6.heap.size W8.heap.size W9.heap.size #[.int .i64 deepN.kind, .bool deepN.b, .int .i64 deepN.n, .string (strB deepN.text), .slice pk1 deepN.keys.length ck1, .slice pl1 deepN.list.length cl1] #[.int .i64 5, .bool false, .int .i64 0, .string ⟨#[]⟩, .slice (some ⟨wr.heap.size, 0, none⟩) 1 1, .slice (some ⟨wr.heap.size + 1, 0, none⟩) 1 1] #[.int .i64 4, .bool false, .int .i64 0, .string ⟨#[]⟩, .slice none 0 0, .slice (some ⟨W3.heap.size, 0, none⟩) 65536 65536] #[.int .i64 4, .bool false, .int .i64 0, .string ⟨#[]⟩, .slice none 0 0, .slice (some ⟨W5.heap.size, 0, none⟩) 65537 65537] #[.int .i64 5, .bool false, .int .i64 0, .string ⟨#[]⟩, .slice (some ⟨W8.heap.size, 0, none⟩) 1 1, .slice (some ⟨W8.heap.size + 1, 0, none⟩) 1 1] #[.int .i64 5, .bool false, .int .i64 0, .string ⟨#[]⟩, .slice (some ⟨W9.heap.size, 0, none⟩) 1 1, .slice (some ⟨W9.heap.size + 1, 0, none⟩) 1 1] ZZ W) => h.stor HE.out)
            have HWK := Lib.hid (fun (W : World) (h : BndU w wr.heap.size W4.heap.size W6.heap.size W8.heap.size W9.heap.size #[.int .i64 deepN.kind, .bool deepN.b, .int .i64 deepN.n, .string (strB deepN.text), .slice pk1 deepN.keys.length ck1, .slice pl1 deepN.list.length cl1] #[.int .i64 5, .bool false, .int .i64 0, .string ⟨#[]⟩, .slice (some ⟨wr.heap.size, 0, none⟩) 1 1, .slice (some ⟨wr.heap.size + 1, 0, none⟩) 1 1] #[.int .i64 4, .bool false, .int .i64 0, .string ⟨#[]⟩, .slice none 0 0, .slice (some ⟨W3.heap.size, 0, none⟩) 65536 65536] #[.int .i64 4, .bool false, .int .i64 0, .string ⟨#[]⟩, .slice none 0 0, .slice (some ⟨W5.heap.size, 0, none⟩) 65537 65537] #[.int .i64 5, .bool false, .int .i64 0, .string ⟨#[]⟩, .slice (some ⟨W8.heap.size, 0, none⟩) 1 1, .slice (some ⟨W8.heap.size + 1, 0, none⟩) 1 1] #[.int .i64 5, .bool false, .int .i64 0, .string ⟨#[]⟩, .slice (some ⟨W9.heap.size, 0, none⟩) 1 1, .slice (some ⟨W9.heap.size + 1, 0, none⟩) 1 1] ZZ W) => h.works HE.out)
            have p1c0 := cellOf (o := 0) HU.out.d1.blk rfl; have p1c1 := cellOf (o := 1) HU.out.d1.blk rfl; have p1c2 := cellOf (o := 2) HU.out.d1.blk rfl; have p1c3 := cellOf (o := 3) HU.out.d1.blk rfl; have p1c4 := cellOf (o := 4) HU.out.d1.blk rfl; have p1c5 := cellOf (o := 5) HU.out.d1.blk rfl
            have p3c0 := cellOf (o := 0) HU.out.d3.blk rfl; have p3c1 := cellOf (o := 1) HU.out.d3.blk rfl; have p3c2 := cellOf (o := 2) HU.out.d3.blk rfl; have p3c3 := cellOf (o := 3) HU.out.d3.blk rfl; have p3c4 := cellOf (o := 4) HU.out.d3.blk rfl; have p3c5 := cellOf (o := 5) HU.out.d3.blk rfl
            have p4c0 := cellOf (o := 0) HU.out.d4.blk rfl; have p4c1 := cellOf (o := 1) HU.out.d4.blk rfl; have p4c2 := cellOf (o := 2) HU.out.d4.blk rfl; have p4c3 := cellOf (o := 3) HU.out.d4.blk rfl; have p4c4 := cellOf (o := 4) HU.out.d4.blk rfl; have p4c5 := cellOf (o := 5) HU.out.d4.blk rfl
            have p5c0 := cellOf (o := 0) HU.out.d5.blk rfl; have p5c1 := cellOf (o := 1) HU.out.d5.blk rfl; have p5c2 := cellOf (o := 2) HU.out.d5.blk rfl; have p5c3 := cellOf (o := 3) HU.out.d5.blk rfl; have p5c4 := cellOf (o := 4) HU.out.d5.blk rfl; have p5c5 := cellOf (o := 5) HU.out.d5.blk rfl
            have p8c0 := cellOf (o := 0) HU.out.d8.blk rfl; have p8c1 := cellOf (o := 1) HU.out.d8.blk rfl; have p8c2 := cellOf (o := 2) HU.out.d8.blk rfl; have p8c3 := cellOf (o := 3) HU.out.d8.blk rfl; have p8c4 := cellOf (o := 4) HU.out.d8.blk rfl; have p8c5 := cellOf (o := 5) HU.out.d8.blk rfl
            have p9c0 := cellOf (o := 0) HU.out.d9.blk rfl; have p9c1 := cellOf (o := 1) HU.out.d9.blk rfl; have p9c2 := cellOf (o := 2) HU.out.d9.blk rfl; have p9c3 := cellOf (o := 3) HU.out.d9.blk rfl; have p9c4 := cellOf (o := 4) HU.out.d9.blk rfl; have p9c5 := cellOf (o := 5) HU.out.d9.blk rfl))
        | (go_at_call 50
           (
            refine (HSZ.out _ HU.out).mono ?_
            rintro e w20 ⟨rfl, hU⟩
            clear HU HSZ
            (try clear p1c0 p1c1 p1c2 p1c3 p1c4 p1c5); (try clear p3c0 p3c1 p3c2 p3c3 p3c4 p3c5); (try clear p4c0 p4c1 p4c2 p4c3 p4c4 p4c5); (try clear p5c0 p5c1 p5c2 p5c3 p5c4 p5c5); (try clear p8c0 p8c1 p8c2 p8c3 p8c4 p8c5); (try clear p9c0 p9c1 p9c2 p9c3 p9c4 p9c5)
            have HU := Lib.hid hU
            have p1c0 := cellOf (o := 0) HU.out.d1.blk rfl; have p1c1 := cellOf (o := 1) HU.out.d1.blk rfl; have p1c2 := cellOf (o := 2) HU.out.d1.blk rfl; have p1c3 := cellOf (o := 3) HU.out.d1.blk rfl; have p1c4 := cellOf (o := 4) HU.out.d1.blk rfl; have p1c5 := cellOf (o := 5) HU.out.d1.blk rfl
            have p3c0 := cellOf (o := 0) HU.out.d3.blk rfl; have p3c1 := cellOf (o := 1) HU.out.d3.blk rfl; have p3c2 := cellOf (o := 2) HU.out.d3.blk rfl; have p3c3 := cellOf (o := 3) HU.out.d3.blk rfl; have p3c4 := cellOf (o := 4) HU.out.d3.blk rfl; have p3c5 := cellOf (o := 5) HU.out.d3.blk rfl
            have p4c0 := cellOf (o := 0) HU.out.d4.blk rfl; have p4c1 := cellOf (o := 1) HU.out.d4.blk rfl; have p4c2 := cellOf (o := 2) HU.out.d4.blk rfl; have p4c3 := cellOf (o := 3) HU.out.d4.blk rfl; have p4c4 := cellOf (o := 4) HU.out.d4.blk rfl; have p4c5 := cellOf (o := 5) HU.out.d4.blk rfl
            have p5c0 := cellOf (o := 0) HU.out.d5.blk rfl; have p5c1 := cellOf (o := 1) HU.out.d5.blk rfl; have p5c2 := cellOf (o := 2) HU.out.d5.blk rfl; have p5c3 := cellOf (o := 3) HU.out.d5.blk rfl; have p5c4 := cellOf (o := 4) HU.out.d5.blk rfl; have p5c5 := cellOf (o := 5) HU.out.d5.blk rfl
            have p8c0 := cellOf (o := 0) HU.out.d8.blk rfl; have p8c1 := cellOf (o := 1) HU.out.d8.blk rfl; have p8c2 := cellOf (o := 2) HU.out.d8.blk rfl; have p8c3 := cellOf (o := 3) HU.out.d8.blk rfl; have p8c4 := cellOf (o := 4) HU.out.d8.blk rfl; have p8c5 := cellOf (o := 5) HU.out.d8.blk rfl
            have p9c0 := cellOf (o := 0) HU.out.d9.blk rfl; have p9c1 := cellOf (o := 1) HU.out.d9.blk rfl; have p9c2 := cellOf (o := 2) HU.out.d9.blk rfl; have p9c3 := cellOf (o := 3) HU.out.d9.blk rfl; have p9c4 := cellOf (o := 4) HU.out.d9.blk rfl; have p9c5 := cellOf (o := 5) HU.out.d9.blk rfl
            clear hU))
        | (go_at_call 27
           (
            refine (HTX.out _ HU.out).mono ?_
            rintro e w21 ⟨rfl, hU⟩
            clear HU HTX
            (try clear p1c0 p1c1 p1c2 p1c3 p1c4 p1c5); (try clear p3c0 p3c1 p3c2 p3c3 p3c4 p3c5); (try clear p4c0 p4c1 p4c2 p4c3 p4c4 p4c5); (try clear p5c0 p5c1 p5c2 p5c3 p5c4 p5c5); (try clear p8c0 p8c1 p8c2 p8c3 p8c4 p8c5); (try clear p9c0 p9c1 p9c2 p9c3 p9c4 p9c5)
            have HU := Lib.hid hU
            have p1c0 := cellOf (o := 0) HU.out.d1.blk rfl; have p1c1 := cellOf (o := 1) HU.out.d1.blk rfl; have p1c2 := cellOf (o := 2) HU.out.d1.blk rfl; have p1c3 := cellOf (o := 3) HU.out.d1.blk rfl; have p1c4 := cellOf (o := 4) HU.out.d1.blk rfl; have p1c5 := cellOf (o := 5) HU.out.d1.blk rfl
            have p3c0 := cellOf (o := 0) HU.out.d3.blk rfl; have p3c1 := cellOf (o := 1) HU.out.d3.blk rfl; have p3c2 := cellOf (o := 2) HU.out.d3.blk rfl; have p3c3 := cellOf (o := 3) HU.out.d3.blk rfl; have p3c4 := cellOf (o := 4) HU.out.d3.blk rfl; have p3c5 := cellOf (o := 5) HU.out.d3.blk rfl
            have p4c0 := cellOf (o := 0) HU.out.d4.blk rfl; have p4c1 := cellOf (o := 1) HU.out.d4.blk rfl; have p4c2 := cellOf (o := 2) HU.out.d4.blk rfl; have p4c3 := cellOf (o := 3) HU.out.d4.blk rfl; have p4c4 := cellOf (o := 4) HU.out.d4.blk rfl; have p4c5 := cellOf (o := 5) HU.out.d4.blk rfl
            have p5c0 := cellOf (o := 0) HU.out.d5.blk rfl; have p5c1 := cellOf (o := 1) HU.out.d5.blk rfl; have p5c2 := cellOf (o := 2) HU.out.d5.blk rfl; have p5c3 := cellOf (o := 3) HU.out.d5.blk rfl; have p5c4 := cellOf (o := 4) HU.out.d5.blk rfl; have p5c5 := cellOf (o := 5) HU.out.d5.blk rfl
            have p8c0 := cellOf (o := 0) HU.out.d8.blk rfl; have p8c1 := cellOf (o := 1) HU.out.d8.blk rfl; have p8c2 := cellOf (o := 2) HU.out.d8.blk rfl; have p8c3 := cellOf (o := 3) HU.out.d8.blk rfl; have p8c4 := cellOf (o := 4) HU.out.d8.blk rfl; have p8c5 := cellOf (o := 5) HU.out.d8.blk rfl
            have p9c0 := cellOf (o := 0) HU.out.d9.blk rfl; have p9c1 := cellOf (o := 1) HU.out.d9.blk rfl; have p9c2 := cellOf (o := 2) HU.out.d9.blk rfl; have p9c3 := cellOf (o := 3) HU.out.d9.blk rfl; have p9c4 := cellOf (o := 4) HU.out.d9.blk rfl; have p9c5 := cellOf (o := 5) HU.out.d9.blk rfl
            clear hU))
        | (go_at_call 45
           (
            refine (HK0.out _ HU.out).mono ?_
            rintro e w22 ⟨rfl, hU⟩
            clear HU HK0
            (try clear p1c0 p1c1 p1c2 p1c3 p1c4 p1c5); (try clear p3c0 p3c1 p3c2 p3c3 p3c4 p3c5); (try clear p4c0 p4c1 p4c2 p4c3 p4c4 p4c5); (try clear p5c0 p5c1 p5c2 p5c3 p5c4 p5c5); (try clear p8c0 p8c1 p8c2 p8c3 p8c4 p8c5); (try clear p9c0 p9c1 p9c2 p9c3 p9c4 p9c5)
            have HU := Lib.hid hU
            have p1c0 := cellOf (o := 0) HU.out.d1.blk rfl; have p1c1 := cellOf (o := 1) HU.out.d1.blk rfl; have p1c2 := cellOf (o := 2) HU.out.d1.blk rfl; have p1c3 := cellOf (o := 3) HU.out.d1.blk rfl; have p1c4 := cellOf (o := 4) HU.out.d1.blk rfl; have p1c5 := cellOf (o := 5) HU.out.d1.blk rfl
            have p3c0 := cellOf (o := 0) HU.out.d3.blk rfl; have p3c1 := cellOf (o := 1) HU.out.d3.blk rfl; have p3c2 := cellOf (o := 2) HU.out.d3.blk rfl; have p3c3 := cellOf (o := 3) HU.out.d3.blk rfl; have p3c4 := cellOf (o := 4) HU.out.d3.blk rfl; have p3c5 := cellOf (o := 5) HU.out.d3.blk rfl
            have p4c0 := cellOf (o := 0) HU.out.d4.blk rfl; have p4c1 := cellOf (o := 1) HU.out.d4.blk rfl; have p4c2 := cellOf (o := 2) HU.out.d4.blk rfl; have p4c3 := cellOf (o := 3) HU.out.d4.blk rfl; have p4c4 := cellOf (o := 4) HU.out.d4.blk rfl; have p4c5 := cellOf (o := 5) HU.out.d4.blk rfl
            have p5c0 := cellOf (o := 0) HU.out.d5.blk rfl; have p5c1 := cellOf (o := 1) HU.out.d5.blk rfl; have p5c2 := cellOf (o := 2) HU.out.d5.blk rfl; have p5c3 := cellOf (o := 3) HU.out.d5.blk rfl; have p5c4 := cellOf (o := 4) HU.out.d5.blk rfl; have p5c5 := cellOf (o := 5) HU.out.d5.blk rfl
            have p8c0 := cellOf (o := 0) HU.out.d8.blk rfl; have p8c1 := cellOf (o := 1) HU.out.d8.blk rfl; have p8c2 := cellOf (o := 2) HU.out.d8.blk rfl; have p8c3 := cellOf (o := 3) HU.out.d8.blk rfl; have p8c4 := cellOf (o := 4) HU.out.d8.blk rfl; have p8c5 := cellOf (o := 5) HU.out.d8.blk rfl
            have p9c0 := cellOf (o := 0) HU.out.d9.blk rfl; have p9c1 := cellOf (o := 1) HU.out.d9.blk rfl; have p9c2 := cellOf (o := 2) HU.out.d9.blk rfl; have p9c3 := cellOf (o := 3) HU.out.d9.blk rfl; have p9c4 := cellOf (o := 4) HU.out.d9.blk rfl; have p9c5 := cellOf (o := 5) HU.out.d9.blk rfl
            clear hU))
        | (go_at_call 45
           (
            refine (HK1.out _ HU.out).mono ?_
            rintro e w23 ⟨rfl, hU⟩
            clear HU HK1
            (try clear p1c0 p1c1 p1c2 p1c3 p1c4 p1c5); (try clear p3c0 p3c1 p3c2 p3c3 p3c4 p3c5); (try clear p4c0 p4c1 p4c2 p4c3 p4c4 p4c5); (try clear p5c0 p5c1 p5c2 p5c3 p5c4 p5c5); (try clear p8c0 p8c1 p8c2 p8c3 p8c4 p8c5); (try clear p9c0 p9c1 p9c2 p9c3 p9c4 p9c5)
            have HU := Lib.hid hU
            have p1c0 := cellOf (o := 0) HU.out.d1.blk rfl; have p1c1 := cellOf (o := 1) HU.out.d1.blk rfl; have p1c2 := cellOf (o := 2) HU.out.d1.blk rfl; have p1c3 := cellOf (o := 3) HU.out.d1.blk rfl; have p1c4 := cellOf (o := 4) HU.out.d1.blk rfl; have p1c5 := cellOf (o := 5) HU.out.d1.blk rfl
            have p3c0 := cellOf (o := 0) HU.out.d3.blk rfl; have p3c1 := cellOf (o := 1) HU.out.d3.blk rfl; have p3c2 := cellOf (o := 2) HU.out.d3.blk rfl; have p3c3 := cellOf (o := 3) HU.out.d3.blk rfl; have p3c4 := cellOf (o := 4) HU.out.d3.blk rfl; have p3c5 := cellOf (o := 5) HU.out.d3.blk rfl
            have p4c0 := cellOf (o := 0) HU.out.d4.blk rfl; have p4c1 := cellOf (o := 1) HU.out.d4.blk rfl; have p4c2 := cellOf (o := 2) HU.out.d4.blk rfl; have p4c3 := cellOf (o := 3) HU.out.d4.blk rfl; have p4c4 := cellOf (o := 4) HU.out.d4.blk rfl; have p4c5 := cellOf (o := 5) HU.out.d4.blk rfl
            have p5c0 := cellOf (o := 0) HU.out.d5.blk rfl; have p5c1 := cellOf (o := 1) HU.out.d5.blk rfl; have p5c2 := cellOf (o := 2) HU.out.d5.blk rfl; have p5c3 := cellOf (o := 3) HU.out.d5.blk rfl; have p5c4 := cellOf (o := 4) HU.out.d5.blk rfl; have p5c5 := cellOf (o := 5) HU.out.d5.blk rfl
            have p8c0 := cellOf (o := 0) HU.out.d8.blk rfl; have p8c1 := cellOf (o := 1) HU.out.d8.blk rfl; have p8c2 := cellOf (o := 2) HU.out.d8.blk rfl; have p8c3 := cellOf (o := 3) HU.out.d8.blk rfl; have p8c4 := cellOf (o := 4) HU.out.d8.blk rfl; have p8c5 := cellOf (o := 5) HU.out.d8.blk rfl
            have p9c0 := cellOf (o := 0) HU.out.d9.blk rfl; have p9c1 := cellOf (o := 1) HU.out.d9.blk rfl; have p9c2 := cellOf (o := 2) HU.out.d9.blk rfl; have p9c3 := cellOf (o := 3) HU.out.d9.blk rfl; have p9c4 := cellOf (o := 4) HU.out.d9.blk rfl; have p9c5 := cellOf (o := 5) HU.out.d9.blk rfl
            clear hU))
        | (go_at_call 45
           (
            refine (HK2.out _ HU.out).mono ?_
            rintro e w24 ⟨rfl, hU⟩
            clear HU HK2
            (try clear p1c0 p1c1 p1c2 p1c3 p1c4 p1c5); (try clear p3c0 p3c1 p3c2 p3c3 p3c4 p3c5); (try clear p4c0 p4c1 p4c2 p4c3 p4c4 p4c5); (try clear p5c0 p5c1 p5c2 p5c3 p5c4 p5c5); (try clear p8c0 p8c1 p8c2 p8c3 p8c4 p8c5); (try clear p9c0 p9c1 p9c2 p9c3 p9c4 p9c5)
            have HU := Lib.hid hU
            have p1c0 := cellOf (o := 0) HU.out.d1.blk rfl; have p1c1 := cellOf (o := 1) HU.out.d1.blk rfl; have p1c2 := cellOf (o := 2) HU.out.d1.blk rfl; have p1c3 := cellOf (o := 3) HU.out.d1.blk rfl; have p1c4 := cellOf (o := 4) HU.out.d1.blk rfl; have p1c5 := cellOf (o := 5) HU.out.d1.blk rfl
            have p3c0 := cellOf (o := 0) HU.out.d3.blk rfl; have p3c1 := cellOf (o := 1) HU.out.d3.blk rfl; have p3c2 := cellOf (o := 2) HU.out.d3.blk rfl; have p3c3 := cellOf (o := 3) HU.out.d3.blk rfl; have p3c4 := cellOf (o := 4) HU.out.d3.blk rfl; have p3c5 := cellOf (o := 5) HU.out.d3.blk rfl
            have p4c0 := cellOf (o := 0) HU.out.d4.blk rfl; have p4c1 := cellOf (o := 1) HU.out.d4.blk rfl; have p4c2 := cellOf (o := 2) HU.out.d4.blk rfl; have p4c3 := cellOf (o := 3) HU.out.d4.blk rfl; have p4c4 := cellOf (o := 4) HU.out.d4.blk rfl; have p4c5 := cellOf (o := 5) HU.out.d4.blk rfl
            have p5c0 := cellOf (o := 0) HU.out.d5.blk rfl; have p5c1 := cellOf (o := 1) HU.out.d5.blk rfl; have p5c2 := cellOf (o := 2) HU.out.d5.blk rfl; have p5c3 := cellOf (o := 3) HU.out.d5.blk rfl; have p5c4 := cellOf (o := 4) HU.out.d5.blk rfl; have p5c5 := cellOf (o := 5) HU.out.d5.blk rfl
            have p8c0 := cellOf (o := 0) HU.out.d8.blk rfl; have p8c1 := cellOf (o := 1) HU.out.d8.blk rfl; have p8c2 := cellOf (o := 2) HU.out.d8.blk rfl; have p8c3 := cellOf (o := 3) HU.out.d8.blk rfl; have p8c4 := cellOf (o := 4) HU.out.d8.blk rfl; have p8c5 := cellOf (o := 5) HU.out.d8.blk rfl
            have p9c0 := cellOf (o := 0) HU.out.d9.blk rfl; have p9c1 := cellOf (o := 1) HU.out.d9.blk rfl; have p9c2 := cellOf (o := 2) HU.out.d9.blk rfl; have p9c3 := cellOf (o := 3) HU.out.d9.blk rfl; have p9c4 := cellOf (o := 4) HU.out.d9.blk rfl; have p9c5 := cellOf (o := 5) HU.out.d9.blk rfl
            clear hU))
        | (go_at_call 45
           (
            refine (HK3.out _ HU.out).mono ?_
            rintro e w25 ⟨rfl, hU⟩
            clear HU HK3
            (try clear p1c0 p1c1 p1c2 p1c3 p1c4 p1c5); (try clear p3c0 p3c1 p3c2 p3c3 p3c4 p3c5); (try clear p4c0 p4c1 p4c2 p4c3 p4c4 p4c5); (try clear p5c0 p5c1 p5c2 p5c3 p5c4 p5c5); (try clear p8c0 p8c1 p8c2 p8c3 p8c4 p8c5); (try clear p9c0 p9c1 p9c2 p9c3 p9c4 p9c5)
            have HU := Lib.hid hU
            have p1c0 := cellOf (o := 0) HU.out.d1.blk rfl; have p1c1 := cellOf (o := 1) HU.out.d1.blk rfl; have p1c2 := cellOf (o := 2) HU.out.d1.blk rfl; have p1c3 := cellOf (o := 3) HU.out.d1.blk rfl; have p1c4 := cellOf (o := 4) HU.out.d1.blk rfl; have p1c5 := cellOf (o := 5) HU.out.d1.blk rfl
            have p3c0 := cellOf (o := 0) HU.out.d3.blk rfl; have p3c1 := cellOf (o := 1) HU.out.d3.blk rfl; have p3c2 := cellOf (o := 2) HU.out.d3.blk rfl; have p3c3 := cellOf (o := 3) HU.out.d3.blk rfl; have p3c4 := cellOf (o := 4) HU.out.d3.blk rfl; have p3c5 := cellOf (o := 5) HU.out.d3.blk rfl
            have p4c0 := cellOf (o := 0) HU.out.d4.blk rfl; have p4c1 := cellOf (o := 1) HU.out.d4.blk rfl; have p4c2 := cellOf (o := 2) HU.out.d4.blk rfl; have p4c3 := cellOf (o := 3) HU.out.d4.blk rfl; have p4c4 := cellOf (o := 4) HU.out.d4.blk rfl; have p4c5 := cellOf (o := 5) HU.out.d4.blk rfl
            have p5c0 := cellOf (o := 0) HU.out.d5.blk rfl; have p5c1 := cellOf (o := 1) HU.out.d5.blk rfl; have p5c2 := cellOf (o := 2) HU.out.d5.blk rfl; have p5c3 := cellOf (o := 3) HU.out.d5.blk rfl; have p5c4 := cellOf (o := 4) HU.out.d5.blk rfl; have p5c5 := cellOf (o := 5) HU.out.d5.blk rfl
            have p8c0 := cellOf (o := 0) HU.out.d8.blk rfl; have p8c1 := cellOf (o := 1) HU.out.d8.blk rfl; have p8c2 := cellOf (o := 2) HU.out.d8.blk rfl; have p8c3 := cellOf (o := 3) HU.out.d8.blk rfl; have p8c4 := cellOf (o := 4) HU.out.d8.blk rfl; have p8c5 := cellOf (o := 5) HU.out.d8.blk rfl
            have p9c0 := cellOf (o := 0) HU.out.d9.blk rfl; have p9c1 := cellOf (o := 1) HU.out.d9.blk rfl; have p9c2 := cellOf (o := 2) HU.out.d9.blk rfl; have p9c3 := cellOf (o := 3) HU.out.d9.blk rfl; have p9c4 := cellOf (o := 4) HU.out.d9.blk rfl; have p9c5 := cellOf (o := 5) HU.out.d9.blk rfl
            clear hU))
        | (go_at_call 45
           (
            refine (HK4.out _ HU.out).mono ?_
            rintro e w26 ⟨rfl, hU⟩
            clear HU HK4
            (try clear p1c0 p1c1 p1c2 p1c3 p1c4 p1c5); (try clear p3c0 p3c1 p3c2 p3c3 p3c4 p3c5); (try clear p4c0 p4c1 p4c2 p4c3 p4c4 p4c5); (try clear p5c0 p5c1 p5c2 p5c3 p5c4 p5c5); (try clear p8c0 p8c1 p8c2 p8c3 p8c4 p8c5); (try clear p9c0 p9c1 p9c2 p9c3 p9c4 p9c5)
            have HU := Lib.hid hU
            have p1c0 := cellOf (o := 0) HU.out.d1.blk rfl; have p1c1 := cellOf (o := 1) HU.out.d1.blk rfl; have p1c2 := cellOf (o := 2) HU.out.d1.blk rfl; have p1c3 := cellOf (o := 3) HU.out.d1.blk rfl; have p1c4 := cellOf (o := 4) HU.out.d1.blk rfl; have p1c5 := cellOf (o := 5) HU.out.d1.blk rfl
            have p3c0 := cellOf (o := 0) HU.out.d3.blk rfl; have p3c1 := cellOf (o := 1) HU.out.d3.blk rfl; have p3c2 := cellOf (o := 2) HU.out.d3.blk rfl; have p3c3 := cellOf (o := 3) HU.out.d3.blk rfl; have p3c4 := cellOf (o := 4) HU.out.d3.blk rfl; have p3c5 := cellOf (o := 5) HU.out.d3.blk rfl
            have p4c0 := cellOf (o := 0) HU.out.d4.blk rfl; have p4c1 := cellOf (o := 1) HU.out.d4.blk rfl; have p4c2 := cellOf (o := 2) HU.out.d4.blk rfl; have p4c3 := cellOf (o := 3) HU.out.d4.blk rfl; have p4c4 := cellOf (o := 4) HU.out.d4.blk rfl; have p4c5 := cellOf (o := 5) HU.out.d4.blk rfl
            have p5c0 := cellOf (o := 0) HU.out.d5.blk rfl; have p5c1 := cellOf (o := 1) HU.out.d5.blk rfl; have p5c2 := cellOf (o := 2) HU.out.d5.blk rfl; have p5c3 := cellOf (o := 3) HU.out.d5.blk rfl; have p5c4 := cellOf (o := 4) HU.out.d5.blk rfl; have p5c5 := cellOf (o := 5) HU.out.d5.blk rfl
            have p8c0 := cellOf (o := 0) HU.out.d8.blk rfl; have p8c1 := cellOf (o := 1) HU.out.d8.blk rfl; have p8c2 := cellOf (o := 2) HU.out.d8.blk rfl; have p8c3 := cellOf (o := 3) HU.out.d8.blk rfl; have p8c4 := cellOf (o := 4) HU.out.d8.blk rfl; have p8c5 := cellOf (o := 5) HU.out.d8.blk rfl
            have p9c0 := cellOf (o := 0) HU.out.d9.blk rfl; have p9c1 := cellOf (o := 1) HU.out.d9.blk rfl; have p9c2 := cellOf (o := 2) HU.out.d9.blk rfl; have p9c3 := cellOf (o := 3) HU.out.d9.blk rfl; have p9c4 := cellOf (o := 4) HU.out.d9.blk rfl; have p9c5 := cellOf (o := 5) HU.out.d9.blk rfl
            clear hU))
        | (go_at_call 45
           (
            refine (HK5.out _ HU.out).mono ?_
            rintro e w27 ⟨rfl, hU⟩
            clear HU HK5
            (try clear p1c0 p1c1 p1c2 p1c3 p1c4 p1c5); (try clear p3c0 p3c1 p3c2 p3c3 p3c4 p3c5); (try clear p4c0 p4c1 p4c2 p4c3 p4c4 p4c5); (try clear p5c0 p5c1 p5c2 p5c3 p5c4 p5c5); (try clear p8c0 p8c1 p8c2 p8c3 p8c4 p8c5); (try clear p9c0 p9c1 p9c2 p9c3 p9c4 p9c5)
            have HU := Lib.hid hU
            have p1c0 := cellOf (o := 0) HU.out.d1.blk rfl; have p1c1 := cellOf (o := 1) HU.out.d1.blk rfl; have p1c2 := cellOf (o := 2) HU.out.d1.blk rfl; have p1c3 := cellOf (o := 3) HU.out.d1.blk rfl; have p1c4 := cellOf (o := 4) HU.out.d1.blk rfl; have p1c5 := cellOf (o := 5) HU.out.d1.blk rfl
            have p3c0 := cellOf (o := 0) HU.out.d3.blk rfl; have p3c1 := cellOf (o := 1) HU.out.d3.blk rfl; have p3c2 := cellOf (o := 2) HU.out.d3.blk rfl; have p3c3 := cellOf (o := 3) HU.out.d3.blk rfl; have p3c4 := cellOf (o := 4) HU.out.d3.blk rfl; have p3c5 := cellOf (o := 5) HU.out.d3.blk rfl
            have p4c0 := cellOf (o := 0) HU.out.d4.blk rfl; have p4c1 := cellOf (o := 1) HU.out.d4.blk rfl; have p4c2 := cellOf (o := 2) HU.out.d4.blk rfl; have p4c3 := cellOf (o := 3) HU.out.d4.blk rfl; have p4c4 := cellOf (o := 4) HU.out.d4.blk rfl; have p4c5 := cellOf (o := 5) HU.out.d4.blk rfl
            have p5c0 := cellOf (o := 0) HU.out.d5.blk rfl; have p5c1 := cellOf (o := 1) HU.out.d5.blk rfl; have p5c2 := cellOf (o := 2) HU.out.d5.blk rfl; have p5c3 := cellOf (o := 3) HU.out.d5.blk rfl; have p5c4 := cellOf (o := 4) HU.out.d5.blk rfl; have p5c5 := cellOf (o := 5) HU.out.d5.blk rfl
            have p8c0 := cellOf (o := 0) HU.out.d8.blk rfl; have p8c1 := cellOf (o := 1) HU.out.d8.blk rfl; have p8c2 := cellOf (o := 2) HU.out.d8.blk rfl; have p8c3 := cellOf (o := 3) HU.out.d8.blk rfl; have p8c4 := cellOf (o := 4) HU.out.d8.blk rfl; have p8c5 := cellOf (o := 5) HU.out.d8.blk rfl
            have p9c0 := cellOf (o := 0) HU.out.d9.blk rfl; have p9c1 := cellOf (o := 1) HU.out.d9.blk rfl; have p9c2 := cellOf (o := 2) HU.out.d9.blk rfl; have p9c3 := cellOf (o := 3) HU.out.d9.blk rfl; have p9c4 := cellOf (o := 4) HU.out.d9.blk rfl; have p9c5 := cellOf (o := 5) HU.out.d9.blk rfl
            clear hU))
        | (go_at_call 33; refine (num_any _ _).mono ?_; rintro e w' ⟨rfl, rfl⟩)
        | (go_at_call 20
           (
            refine (HCM.out _ HU.out).mono ?_
            rintro e w30 ⟨rfl, hU⟩
            clear HU HCM
            (try clear p1c0 p1c1 p1c2 p1c3 p1c4 p1c5); (try clear p3c0 p3c1 p3c2 p3c3 p3c4 p3c5); (try clear p4c0 p4c1 p4c2 p4c3 p4c4 p4c5); (try clear p5c0 p5c1 p5c2 p5c3 p5c4 p5c5); (try clear p8c0 p8c1 p8c2 p8c3 p8c4 p8c5); (try clear p9c0 p9c1 p9c2 p9c3 p9c4 p9c5)
            have HU := Lib.hid hU
            have p1c0 := cellOf (o := 0) HU.out.d1.blk rfl; have p1c1 := cellOf (o := 1) HU.out.d1.blk rfl; have p1c2 := cellOf (o := 2) HU.out.d1.blk rfl; have p1c3 := cellOf (o := 3) HU.out.d1.blk rfl; have p1c4 := cellOf (o := 4) HU.out.d1.blk rfl; have p1c5 := cellOf (o := 5) HU.out.d1.blk rfl
            have p3c0 := cellOf (o := 0) HU.out.d3.blk rfl; have p3c1 := cellOf (o := 1) HU.out.d3.blk rfl; have p3c2 := cellOf (o := 2) HU.out.d3.blk rfl; have p3c3 := cellOf (o := 3) HU.out.d3.blk rfl; have p3c4 := cellOf (o := 4) HU.out.d3.blk rfl; have p3c5 := cellOf (o := 5) HU.out.d3.blk rfl
            have p4c0 := cellOf (o := 0) HU.out.d4.blk rfl; have p4c1 := cellOf (o := 1) HU.out.d4.blk rfl; have p4c2 := cellOf (o := 2) HU.out.d4.blk rfl; have p4c3 := cellOf (o := 3) HU.out.d4.blk rfl; have p4c4 := cellOf (o := 4) HU.out.d4.blk rfl; have p4c5 := cellOf (o := 5) HU.out.d4.blk rfl
            have p5c0 := cellOf (o := 0) HU.out.d5.blk rfl; have p5c1 := cellOf (o := 1) HU.out.d5.blk rfl; have p5c2 := cellOf (o := 2) HU.out.d5.blk rfl; have p5c3 := cellOf (o := 3) HU.out.d5.blk rfl; have p5c4 := cellOf (o := 4) HU.out.d5.blk rfl; have p5c5 := cellOf (o := 5) HU.out.d5.blk rfl
            have p8c0 := cellOf (o := 0) HU.out.d8.blk rfl; have p8c1 := cellOf (o := 1) HU.out.d8.blk rfl; have p8c2 := cellOf (o := 2) HU.out.d8.blk rfl; have p8c3 := cellOf (o := 3) HU.out.d8.blk rfl; have p8c4 := cellOf (o := 4) HU.out.d8.blk rfl; have p8c5 := cellOf (o := 5) HU.out.d8.blk rfl
            have p9c0 := cellOf (o := 0) HU.out.d9.blk rfl; have p9c1 := cellOf (o := 1) HU.out.d9.blk rfl; have p9c2 := cellOf (o := 2) HU.out.d9.blk rfl; have p9c3 := cellOf (o := 3) HU.out.d9.blk rfl; have p9c4 := cellOf (o := 4) HU.out.d9.blk rfl; have p9c5 := cellOf (o := 5) HU.out.d9.blk rfl
            clear hU))
        | (go_at_call 21
           (
            refine (HSA.out _ HU.out).mono ?_
            rintro e w31 ⟨rfl, hU⟩
            clear HU HSA
            (try clear p1c0 p1c1 p1c2 p1c3 p1c4 p1c5); (try clear p3c0 p3c1 p3c2 p3c3 p3c4 p3c5); (try clear p4c0 p4c1 p4c2 p4c3 p4c4 p4c5); (try clear p5c0 p5c1 p5c2 p5c3 p5c4 p5c5); (try clear p8c0 p8c1 p8c2 p8c3 p8c4 p8c5); (try clear p9c0 p9c1 p9c2 p9c3 p9c4 p9c5)
            have HU := Lib.hid hU
            have p1c0 := cellOf (o := 0) HU.out.d1.blk rfl; have p1c1 := cellOf (o := 1) HU.out.d1.blk rfl; have p1c2 := cellOf (o := 2) HU.out.d1.blk rfl; have p1c3 := cellOf (o := 3) HU.out.d1.blk rfl; have p1c4 := cellOf (o := 4) HU.out.d1.blk rfl; have p1c5 := cellOf (o := 5) HU.out.d1.blk rfl
            have p3c0 := cellOf (o := 0) HU.out.d3.blk rfl; have p3c1 := cellOf (o := 1) HU.out.d3.blk rfl; have p3c2 := cellOf (o := 2) HU.out.d3.blk rfl; have p3c3 := cellOf (o := 3) HU.out.d3.blk rfl; have p3c4 := cellOf (o := 4) HU.out.d3.blk rfl; have p3c5 := cellOf (o := 5) HU.out.d3.blk rfl
            have p4c0 := cellOf (o := 0) HU.out.d4.blk rfl; have p4c1 := cellOf (o := 1) HU.out.d4.blk rfl; have p4c2 := cellOf (o := 2) HU.out.d4.blk rfl; have p4c3 := cellOf (o := 3) HU.out.d4.blk rfl; have p4c4 := cellOf (o := 4) HU.out.d4.blk rfl; have p4c5 := cellOf (o := 5) HU.out.d4.blk rfl
            have p5c0 := cellOf (o := 0) HU.out.d5.blk rfl; have p5c1 := cellOf (o := 1) HU.out.d5.blk rfl; have p5c2 := cellOf (o := 2) HU.out.d5.blk rfl; have p5c3 := cellOf (o := 3) HU.out.d5.blk rfl; have p5c4 := cellOf (o := 4) HU.out.d5.blk rfl; have p5c5 := cellOf (o := 5) HU.out.d5.blk rfl
            have p8c0 := cellOf (o := 0) HU.out.d8.blk rfl; have p8c1 := cellOf (o := 1) HU.out.d8.blk rfl; have p8c2 := cellOf (o := 2) HU.out.d8.blk rfl; have p8c3 := cellOf (o := 3) HU.out.d8.blk rfl; have p8c4 := cellOf (o := 4) HU.out.d8.blk rfl; have p8c5 := cellOf (o := 5) HU.out.d8.blk rfl
            have p9c0 := cellOf (o := 0) HU.out.d9.blk rfl; have p9c1 := cellOf (o := 1) HU.out.d9.blk rfl; have p9c2 := cellOf (o := 2) HU.out.d9.blk rfl; have p9c3 := cellOf (o := 3) HU.out.d9.blk rfl; have p9c4 := cellOf (o := 4) HU.out.d9.blk rfl; have p9c5 := cellOf (o := 5) HU.out.d9.blk rfl
            clear hU))
        | (go_at_call 49
           (
            refine (HON.out _ HU.out).mono ?_
            rintro e w32 ⟨p0, c0, rfl, hU⟩
            clear HU HON
            (try clear p1c0 p1c1 p1c2 p1c3 p1c4 p1c5); (try clear p3c0 p3c1 p3c2 p3c3 p3c4 p3c5); (try clear p4c0 p4c1 p4c2 p4c3 p4c4 p4c5); (try clear p5c0 p5c1 p5c2 p5c3 p5c4 p5c5); (try clear p8c0 p8c1 p8c2 p8c3 p8c4 p8c5); (try clear p9c0 p9c1 p9c2 p9c3 p9c4 p9c5)
            have HU := Lib.hid hU
            have p1c0 := cellOf (o := 0) HU.out.d1.blk rfl; have p1c1 := cellOf (o := 1) HU.out.d1.blk rfl; have p1c2 := cellOf (o := 2) HU.out.d1.blk rfl; have p1c3 := cellOf (o := 3) HU.out.d1.blk rfl; have p1c4 := cellOf (o := 4) HU.out.d1.blk rfl; have p1c5 := cellOf (o := 5) HU.out.d1.blk rfl
            have p3c0 := cellOf (o := 0) HU.out.d3.blk rfl; have p3c1 := cellOf (o := 1) HU.out.d3.blk rfl; have p3c2 := cellOf (o := 2) HU.out.d3.blk rfl; have p3c3 := cellOf (o := 3) HU.out.d3.blk rfl; have p3c4 := cellOf (o := 4) HU.out.d3.blk rfl; have p3c5 := cellOf (o := 5) HU.out.d3.blk rfl
            have p4c0 := cellOf (o := 0) HU.out.d4.blk rfl; have p4c1 := cellOf (o := 1) HU.out.d4.blk rfl; have p4c2 := cellOf (o := 2) HU.out.d4.blk rfl; have p4c3 := cellOf (o := 3) HU.out.d4.blk rfl; have p4c4 := cellOf (o := 4) HU.out.d4.blk rfl; have p4c5 := cellOf (o := 5) HU.out.d4.blk rfl
            have p5c0 := cellOf (o := 0) HU.out.d5.blk rfl; have p5c1 := cellOf (o := 1) HU.out.d5.blk rfl; have p5c2 := cellOf (o := 2) HU.out.d5.blk rfl; have p5c3 := cellOf (o := 3) HU.out.d5.blk rfl; have p5c4 := cellOf (o := 4) HU.out.d5.blk rfl; have p5c5 := cellOf (o := 5) HU.out.d5.blk rfl
            have p8c0 := cellOf (o := 0) HU.out.d8.blk rfl; have p8c1 := cellOf (o := 1) HU.out.d8.blk rfl; have p8c2 := cellOf (o := 2) HU.out.d8.blk rfl; have p8c3 := cellOf (o := 3) HU.out.d8.blk rfl; have p8c4 := cellOf (o := 4) HU.out.d8.blk rfl; have p8c5 := cellOf (o := 5) HU.out.d8.blk rfl
            have p9c0 := cellOf (o := 0) HU.out.d9.blk rfl; have p9c1 := cellOf (o := 1) HU.out.d9.blk rfl; have p9c2 := cellOf (o := 2) HU.out.d9.blk rfl; have p9c3 := cellOf (o := 3) HU.out.d9.blk rfl; have p9c4 := cellOf (o := 4) HU.out.d9.blk rfl; have p9c5 := cellOf (o := 5) HU.out.d9.blk rfl
            clear hU))
        | (go_at_call 53
           (
            refine (HST.out _ HU.out).mono ?_
            rintro e w33 ⟨rfl, hU⟩
            clear HU HST
            (try clear p1c0 p1c1 p1c2 p1c3 p1c4 p1c5); (try clear p3c0 p3c1 p3c2 p3c3 p3c4 p3c5); (try clear p4c0 p4c1 p4c2 p4c3 p4c4 p4c5); (try clear p5c0 p5c1 p5c2 p5c3 p5c4 p5c5); (try clear p8c0 p8c1 p8c2 p8c3 p8c4 p8c5); (try clear p9c0 p9c1 p9c2 p9c3 p9c4 p9c5)
            have HU := Lib.hid hU
            have p1c0 := cellOf (o := 0) HU.out.d1.blk rfl; have p1c1 := cellOf (o := 1) HU.out.d1.blk rfl; have p1c2 := cellOf (o := 2) HU.out.d1.blk rfl; have p1c3 := cellOf (o := 3) HU.out.d1.blk rfl; have p1c4 := cellOf (o := 4) HU.out.d1.blk rfl; have p1c5 := cellOf (o := 5) HU.out.d1.blk rfl
            have p3c0 := cellOf (o := 0) HU.out.d3.blk rfl; have p3c1 := cellOf (o := 1) HU.out.d3.blk rfl; have p3c2 := cellOf (o := 2) HU.out.d3.blk rfl; have p3c3 := cellOf (o := 3) HU.out.d3.blk rfl; have p3c4 := cellOf (o := 4) HU.out.d3.blk rfl; have p3c5 := cellOf (o := 5) HU.out.d3.blk rfl
            have p4c0 := cellOf (o := 0) HU.out.d4.blk rfl; have p4c1 := cellOf (o := 1) HU.out.d4.blk rfl; have p4c2 := cellOf (o := 2) HU.out.d4.blk rfl; have p4c3 := cellOf (o := 3) HU.out.d4.blk rfl; have p4c4 := cellOf (o := 4) HU.out.d4.blk rfl; have p4c5 := cellOf (o := 5) HU.out.d4.blk rfl
            have p5c0 := cellOf (o := 0) HU.out.d5.blk rfl; have p5c1 := cellOf (o := 1) HU.out.d5.blk rfl; have p5c2 := cellOf (o := 2) HU.out.d5.blk rfl; have p5c3 := cellOf (o := 3) HU.out.d5.blk rfl; have p5c4 := cellOf (o := 4) HU.out.d5.blk rfl; have p5c5 := cellOf (o := 5) HU.out.d5.blk rfl
            have p8c0 := cellOf (o := 0) HU.out.d8.blk rfl; have p8c1 := cellOf (o := 1) HU.out.d8.blk rfl; have p8c2 := cellOf (o := 2) HU.out.d8.blk rfl; have p8c3 := cellOf (o := 3) HU.out.d8.blk rfl; have p8c4 := cellOf (o := 4) HU.out.d8.blk rfl; have p8c5 := cellOf (o := 5) HU.out.d8.blk rfl
            have p9c0 := cellOf (o := 0) HU.out.d9.blk rfl; have p9c1 := cellOf (o := 1) HU.out.d9.blk rfl; have p9c2 := cellOf (o := 2) HU.out.d9.blk rfl; have p9c3 := cellOf (o := 3) HU.out.d9.blk rfl; have p9c4 := cellOf (o := 4) HU.out.d9.blk rfl; have p9c5 := cellOf (o := 5) HU.out.d9.blk rfl
            clear hU))
        | (go_at_call 16
           (
            refine (HWK.out _ HU.out).mono ?_
            rintro e w34 ⟨rfl, hU⟩
            clear HU HWK
            (try clear p1c0 p1c1 p1c2 p1c3 p1c4 p1c5); (try clear p3c0 p3c1 p3c2 p3c3 p3c4 p3c5); (try clear p4c0 p4c1 p4c2 p4c3 p4c4 p4c5); (try clear p5c0 p5c1 p5c2 p5c3 p5c4 p5c5); (try clear p8c0 p8c1 p8c2 p8c3 p8c4 p8c5); (try clear p9c0 p9c1 p9c2 p9c3 p9c4 p9c5)
            have HU := Lib.hid hU
            have p1c0 := cellOf (o := 0) HU.out.d1.blk rfl; have p1c1 := cellOf (o := 1) HU.out.d1.blk rfl; have p1c2 := cellOf (o := 2) HU.out.d1.blk rfl; have p1c3 := cellOf (o := 3) HU.out.d1.blk rfl; have p1c4 := cellOf (o := 4) HU.out.d1.blk rfl; have p1c5 := cellOf (o := 5) HU.out.d1.blk rfl
            have p3c0 := cellOf (o := 0) HU.out.d3.blk rfl; have p3c1 := cellOf (o := 1) HU.out.d3.blk rfl; have p3c2 := cellOf (o := 2) HU.out.d3.blk rfl; have p3c3 := cellOf (o := 3) HU.out.d3.blk rfl; have p3c4 := cellOf (o := 4) HU.out.d3.blk rfl; have p3c5 := cellOf (o := 5) HU.out.d3.blk rfl
            have p4c0 := cellOf (o := 0) HU.out.d4.blk rfl; have p4c1 := cellOf (o := 1) HU.out.d4.blk rfl; have p4c2 := cellOf (o := 2) HU.out.d4.blk rfl; have p4c3 := cellOf (o := 3) HU.out.d4.blk rfl; have p4c4 := cellOf (o := 4) HU.out.d4.blk rfl; have p4c5 := cellOf (o := 5) HU.out.d4.blk rfl
            have p5c0 := cellOf (o := 0) HU.out.d5.blk rfl; have p5c1 := cellOf (o := 1) HU.out.d5.blk rfl; have p5c2 := cellOf (o := 2) HU.out.d5.blk rfl; have p5c3 := cellOf (o := 3) HU.out.d5.blk rfl; have p5c4 := cellOf (o := 4) HU.out.d5.blk rfl; have p5c5 := cellOf (o := 5) HU.out.d5.blk rfl
            have p8c0 := cellOf (o := 0) HU.out.d8.blk rfl; have p8c1 := cellOf (o := 1) HU.out.d8.blk rfl; have p8c2 := cellOf (o := 2) HU.out.d8.blk rfl; have p8c3 := cellOf (o := 3) HU.out.d8.blk rfl; have p8c4 := cellOf (o := 4) HU.out.d8.blk rfl; have p8c5 := cellOf (o := 5) HU.out.d8.blk rfl
            have p9c0 := cellOf (o := 0) HU.out.d9.blk rfl; have p9c1 := cellOf (o := 1) HU.out.d9.blk rfl; have p9c2 := cellOf (o := 2) HU.out.d9.blk rfl; have p9c3 := cellOf (o := 3) HU.out.d9.blk rfl; have p9c4 := cellOf (o := 4) HU.out.d9.blk rfl; have p9c5 := cellOf (o := 5) HU.out.d9.blk rfl
            clear hU)))
      go_ret
      exact ⟨rfl, HU.out.b⟩
end Go.Proofs.YtnkaegdnjfpliaaGreatDoor

/-! ValueBounds: the law returns true. The listed tables of Go's library read as the program's text lays them. -/
namespace Go.Proofs.YtnkaegdnjfpliaaGreatDoor
set_option linter.unusedSimpArgs false
set_option linter.unusedVariables false
open Go.ChangeShapes Go.WideShapes Go.ChangeAt Go.RowKit Go.Joins

set_option maxRecDepth 100000 in
theorem valueBounds_lifted (os : Os) (started : os.Started) (H : Type) (enc : TypeId × Value → H) :
    ReturnsInHanded {} Tryz.checked os 14 .any (fun w args => (Rows.valueBoundsSpec.pre enc Tryz.prog Tryz.f14 [] false w args ∧ laidMetH Tryz.prog LD w) ∧ sizedMet enc Tryz.prog Tryz.f14 (OpenSpec.ofChange Rows.valueBoundsSpec) false w args)
      (Rows.valueBoundsSpec.post enc Tryz.prog Tryz.f14 false true false false) := by
  refine returns_tied started (by kernel_rfl) Tryz.func14 #[] (by kernel_rfl) (by kernel_rfl) (by kernel_rfl) (wit_shape _ _) (wit_laid _ _) ?_
  intro W base args ds gs before hval0 hW hz hE
  have hval : ∀ (j : Nat) t v, Tryz.f14.params[j]? = some t → args[j]? = some v → Value.okWide Tryz.prog W .any base t v := hval0
  have hW' := hW
  obtain ⟨p, q, hA0, hV, rfl, hfz, hnd⟩ := hW
  have hA : DataW.TrodAll enc Tryz.prog W 0 (fun _ => true) true Tryz.f14.params.toList args.toList ds p := hA0
  rw [Tryz.params14] at hA hval
  obtain ⟨hargs, rfl, rfl⟩ := trodAll_nil hA
  obtain ⟨rfl, rfl⟩ := trodVars_none hV
  obtain rfl : args = #[] := by cases args; simp_all
  clear hA0 hval0
  refine (bounds_law hE).mono fun e W' ⟨he, hg⟩ => ?_
  subst he
  exact ⟨_, rfl, law_post laidT (by decide +kernel) Tryz.underlying4 (by kernel_rfl) rfl hW' rfl hg⟩
theorem valueBounds_row : Rows.ValueBoundsSaid :=
  OpenClaim.holds_of_wide 14 Tryz.f14 rfl rfl rfl rfl rfl rfl rfl ⟨rfl, rfl, rfl, rfl, rfl⟩ rfl rfl rfl rfl rfl (by kernel_rfl) Tryz.func14 (by kernel_rfl)
    (of_decide_eq_true (by kernel_rfl)) (by unfold Func.isWrapper; first | (rw [if_pos (by decide +kernel)]; kernel_rfl) | (rw [if_neg (by decide +kernel)]; exact ⟨rfl, rfl⟩))
    (fun os started H enc _ => valueBounds_lifted os started H enc)
theorem bounds_law_holds : Rows.ValueBoundsCardSaid :=
  Claim7.holds_tied_plain_at .later [] [.data, .data, .data, .data, .pinned] true (true, "541050135a4ae63573153b942905868de3e811d8a5bb89e3a2a615778747f658") true
    valueBounds_row (fun _ h => by cases h) (by kernel_rfl) (fun _ h => by cases h) valueBounds_row_tie rfl ⟨rfl, rfl⟩ (by kernel_rfl) rfl
    (fun f fn hf hfn => by
      obtain rfl : f = 14 := Option.some.inj ((show Tryz.prog.funcNamed "lattice/latticelaw01.ValueBounds" = some 14 by kernel_rfl).symm.trans hf) |>.symm
      obtain rfl : fn = Tryz.f14 := (Option.some.inj (Tryz.func14.symm.trans hfn)).symm
      exact ⟨by kernel_rfl, fun j t ht => by
        rw [Tryz.params14] at ht
        simp at ht⟩)
    (by kernel_rfl)
#print axioms bounds_law_holds
end Go.Proofs.YtnkaegdnjfpliaaGreatDoor
