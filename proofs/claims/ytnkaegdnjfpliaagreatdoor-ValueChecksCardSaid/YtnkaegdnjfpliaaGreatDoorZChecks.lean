/- ValueChecks: for every value the law returns true, and the arguments read as they did. The listed tables of Go's library read as the program's text lays them. -/
import Derived.Test.YtnkaegdnjfpliaaGreatDoorGB
import Derived.Test.YtnkaegdnjfpliaaGreatDoorGE
import Derived.Test.YtnkaegdnjfpliaaGreatDoorGC
import Derived.Test.YtnkaegdnjfpliaaGreatDoorGD
import Derived.Test.YtnkaegdnjfpliaaGreatDoorGF
import Derived.Test.YtnkaegdnjfpliaaGreatDoorCards
import Derived.Test.YtnkaegdnjfpliaaGreatDoorTie
/-! The law's spoil: a value that was answered is written over. Its rows keep their shape, whatever lies where. -/
namespace Go.Proofs.YtnkaegdnjfpliaaGreatDoor
set_option linter.unusedSimpArgs false
set_option linter.unusedVariables false
open Go.RowKit

/-- What spoil may make of a cell: a number of a number, a text of a text. -/
def LikeV (a b : Option Value) : Prop := a = b ∨ (∃ s s', a = some (.string s) ∧ b = some (.string s')) ∨ (∃ n n', a = some (.int .i64 n) ∧ b = some (.int .i64 n'))
theorem LikeV.trans {a b c : Option Value} (h : LikeV a b) (g : LikeV b c) : LikeV a c := by
  rcases h with rfl | ⟨s, s', rfl, rfl⟩ | ⟨n, n', rfl, rfl⟩
  · exact g
  · rcases g with rfl | ⟨t, t', e, rfl⟩ | ⟨m, m', e, rfl⟩
    · exact .inr (.inl ⟨_, _, rfl, rfl⟩)
    · exact .inr (.inl ⟨_, _, rfl, rfl⟩)
    · cases e
  · rcases g with rfl | ⟨t, t', e, rfl⟩ | ⟨m, m', e, rfl⟩
    · exact .inr (.inr ⟨_, _, rfl, rfl⟩)
    · cases e
    · exact .inr (.inr ⟨_, _, rfl, rfl⟩)
theorem LikeV.str {a : Option Value} {s : ByteArray} (h : LikeV (some (.string s)) a) : ∃ s', a = some (.string s') := by
  rcases h with rfl | ⟨t, t', _, rfl⟩ | ⟨m, m', e, rfl⟩
  · exact ⟨_, rfl⟩
  · exact ⟨_, rfl⟩
  · cases e
theorem LikeV.num {a : Option Value} {n : Int} (h : LikeV (some (.int .i64 n)) a) : ∃ n', a = some (.int .i64 n') := by
  rcases h with rfl | ⟨t, t', e, rfl⟩ | ⟨m, m', _, rfl⟩
  · exact ⟨_, rfl⟩
  · cases e
  · exact ⟨_, rfl⟩
theorem LikeV.bool {a : Option Value} {b : Bool} (h : LikeV (some (.bool b)) a) : a = some (.bool b) := by
  rcases h with h | ⟨t, t', e, _⟩ | ⟨m, m', e, _⟩
  · exact h.symm
  · cases e
  · cases e
theorem LikeV.slice {a : Option Value} {p : Option Addr} {n c : Nat} (h : LikeV (some (.slice p n c)) a) : a = some (.slice p n c) := by
  rcases h with h | ⟨t, t', e, _⟩ | ⟨m, m', e, _⟩
  · exact h.symm
  · cases e
  · cases e
/-- Blocks of P may be spoilt, others stay. -/
structure Spoilt (P : Nat → Prop) (W W' : World) : Prop where
  touch : Touch P W W'
  like : ∀ b cs e, P b → W.heap[b]? = some (.cells cs e (0, 0)) → ∃ cs', W'.heap[b]? = some (.cells cs' e (0, 0)) ∧ ∀ i : Nat, LikeV cs[i]? cs'[i]?
theorem Spoilt.refl (P : Nat → Prop) (W : World) : Spoilt P W W := ⟨Touch.refl _ _, fun b cs e _ h => ⟨cs, h, fun _ => .inl rfl⟩⟩
theorem Spoilt.trans {P : Nat → Prop} {W W' W'' : World} (h : Spoilt P W W') (g : Spoilt P W' W'') : Spoilt P W W'' :=
  ⟨h.touch.trans g.touch, fun b cs e hp hb => by
    obtain ⟨cs', h1, h2⟩ := h.like b cs e hp hb
    obtain ⟨cs'', g1, g2⟩ := g.like b cs' e hp h1
    exact ⟨cs'', g1, fun i => (h2 i).trans (g2 i)⟩⟩
theorem Spoilt.of_below {P : Nat → Prop} {W W' : World} (h : Below W.heap.size W W') : Spoilt P W W' :=
  ⟨Touch.of_below h (fun b h1 h2 => absurd h1 (by omega)), fun b cs e _ hb => ⟨cs, belowBlk h (Array.getElem?_eq_some_iff.1 hb).1 hb, fun _ => .inl rfl⟩⟩
theorem Spoilt.set {P : Nat → Prop} {W : World} {g o : Nat} {cs : Array Value} {e : TypeId} {v : Value} (hP : P g) (hg : W.heap[g]? = some (.cells cs e (0, 0))) (hl : LikeV cs[o]? (some v)) : Spoilt P W (W.setCell ⟨g, o, none⟩ v) := by
  refine ⟨(Touch.refl _ _).setCell (.inl hP) _, fun b cs0 e0 hp hb => ?_⟩
  by_cases hbg : b = g
  · subst hbg
    rw [hg] at hb
    cases hb
    refine ⟨_, heap_setCell_same W b o cs e v hg, fun i => ?_⟩
    rw [Array.getElem?_setIfInBounds]
    by_cases hi : o = i
    · subst hi
      rw [if_pos rfl]
      by_cases hlt : o < cs.size
      · rw [if_pos hlt]; exact hl
      · rw [if_neg hlt]
        rw [Array.getElem?_eq_none (by omega)]; exact .inl rfl
    · rw [if_neg hi]; exact .inl rfl
  · exact ⟨cs0, (Below.heap_setCell W ⟨g, o, none⟩ v b hbg).trans hb, fun _ => .inl rfl⟩

/-- Keys' shape. -/
def KSh (w : World) (P : Nat → Prop) (vk : Value) (n : Nat) : Prop := (vk = .slice none 0 0 ∧ n = 0) ∨ ∃ g cap cs, vk = .slice (some ⟨g, 0, none⟩) n cap ∧ P g ∧ w.heap[g]? = some (.cells cs 9 (0, 0)) ∧ ∀ i, i < n → ∃ s, cs[i]? = some (.string s)
mutual
/-- A value's shape: its rows lie in blocks of P. -/
def VSh (w : World) (P : Nat → Prop) : V → Value → Value → Prop
  | .mk _ _ _ _ ks l, vk, vl => KSh w P vk ks.length ∧ ((vl = .slice none 0 0 ∧ l.length = 0) ∨ ∃ g cap cs, vl = .slice (some ⟨g, 0, none⟩) l.length cap ∧ P g ∧ w.heap[g]? = some (.cells cs 26 (0, 0)) ∧ VShs w P cs 0 l)
def VShs (w : World) (P : Nat → Prop) (cs : Array Value) : Nat → List V → Prop
  | _, [] => True
  | i, v :: r => (∃ k b n s vk vl, cs[i * 6]? = some (.int .i64 k) ∧ cs[i * 6 + 1]? = some (.bool b) ∧ cs[i * 6 + 2]? = some (.int .i64 n) ∧ cs[i * 6 + 3]? = some (.string s) ∧ cs[i * 6 + 4]? = some vk ∧ cs[i * 6 + 5]? = some vl ∧ VSh w P v vk vl) ∧ VShs w P cs (i + 1) r
end
theorem VSh_iff {w : World} {P : Nat → Prop} {k : Int} {b : Bool} {n : Int} {t : List UInt8} {ks : List (List UInt8)} {l : List V} {vk vl : Value} : VSh w P (.mk k b n t ks l) vk vl ↔
    KSh w P vk ks.length ∧ ((vl = .slice none 0 0 ∧ l.length = 0) ∨ ∃ g cap cs, vl = .slice (some ⟨g, 0, none⟩) l.length cap ∧ P g ∧ w.heap[g]? = some (.cells cs 26 (0, 0)) ∧ VShs w P cs 0 l) := by rw [VSh]
theorem VShs_iff {w : World} {P : Nat → Prop} {cs : Array Value} : ∀ {l : List V} {i : Nat}, VShs w P cs i l ↔ ∀ (j : Nat) (v : V), l[j]? = some v → ∃ k b n s vk vl, cs[(i + j) * 6]? = some (.int .i64 k) ∧ cs[(i + j) * 6 + 1]? = some (.bool b) ∧ cs[(i + j) * 6 + 2]? = some (.int .i64 n) ∧ cs[(i + j) * 6 + 3]? = some (.string s) ∧ cs[(i + j) * 6 + 4]? = some vk ∧ cs[(i + j) * 6 + 5]? = some vl ∧ VSh w P v vk vl := by
  intro l
  induction l with
  | nil => intro i; simp [VShs]
  | cons a r ih =>
    intro i
    rw [VShs, ih]
    constructor
    · rintro ⟨h1, h2⟩ j v hv
      cases j with
      | zero => simp only [List.getElem?_cons_zero, Option.some.injEq] at hv; subst hv; exact h1
      | succ j => have := h2 j v (by simpa using hv); rwa [show i + 1 + j = i + (j + 1) by omega] at this
    · intro h
      exact ⟨h 0 a rfl, fun j v hv => by have := h (j + 1) v (by simpa using hv); rwa [show i + (j + 1) = i + 1 + j by omega] at this⟩
theorem KSh.spoilt {w w' : World} {P : Nat → Prop} (g : Spoilt P w w') {vk : Value} {n : Nat} (h : KSh w P vk n) : KSh w' P vk n := by
  rcases h with h | ⟨b, cap, cs, h1, h2, h3, h4⟩
  · exact .inl h
  · obtain ⟨cs', g1, g2⟩ := g.like b cs _ h2 h3
    refine .inr ⟨b, cap, cs', h1, h2, g1, fun i hi => ?_⟩
    obtain ⟨s, hs⟩ := h4 i hi
    have := g2 i
    rw [hs] at this
    exact this.str
theorem KSh.slice {w : World} {P : Nat → Prop} {vk : Value} {n : Nat} (h : KSh w P vk n) : ∃ p c, vk = .slice p n c := by
  rcases h with ⟨rfl, rfl⟩ | ⟨b, cap, cs, rfl, _⟩
  · exact ⟨_, _, rfl⟩
  · exact ⟨_, _, rfl⟩
theorem VSh.slices {w : World} {P : Nat → Prop} {v : V} {vk vl : Value} (h : VSh w P v vk vl) : (∃ p c, vk = .slice p v.keys.length c) ∧ ∃ p c, vl = .slice p v.list.length c := by
  cases v with
  | mk k b n t ks l =>
    obtain ⟨h1, h2⟩ := VSh_iff.1 h
    refine ⟨h1.slice, ?_⟩
    rcases h2 with ⟨rfl, e⟩ | ⟨g, cap, cs, rfl, _⟩
    · exact ⟨none, 0, by show _ = Value.slice none l.length 0; rw [e]⟩
    · exact ⟨_, _, rfl⟩
theorem VSh.spoilt {w w' : World} {P : Nat → Prop} (g : Spoilt P w w') : ∀ {v : V} {vk vl : Value}, VSh w P v vk vl → VSh w' P v vk vl := by
  intro v
  refine V.ind (P := fun v => ∀ {vk vl : Value}, VSh w P v vk vl → VSh w' P v vk vl) (fun k b n t ks l ih vk vl h => ?_) v
  obtain ⟨h1, h2⟩ := VSh_iff.1 h
  refine VSh_iff.2 ⟨h1.spoilt g, ?_⟩
  rcases h2 with h2 | ⟨b, cap, cs, e, hp, hb, hs⟩
  · exact .inl h2
  · obtain ⟨cs', g1, g2⟩ := g.like b cs _ hp hb
    refine .inr ⟨b, cap, cs', e, hp, g1, VShs_iff.2 fun j v hv => ?_⟩
    obtain ⟨k, bb, n, s, vk1, vl1, q0, q1, q2, q3, q4, q5, hv1⟩ := VShs_iff.1 hs j v hv
    obtain ⟨⟨p4, c4, e4⟩, ⟨p5, c5, e5⟩⟩ := hv1.slices
    subst e4 e5
    have l0 := g2 ((0 + j) * 6); rw [q0] at l0
    have l1 := g2 ((0 + j) * 6 + 1); rw [q1] at l1
    have l2 := g2 ((0 + j) * 6 + 2); rw [q2] at l2
    have l3 := g2 ((0 + j) * 6 + 3); rw [q3] at l3
    have l4 := g2 ((0 + j) * 6 + 4); rw [q4] at l4
    have l5 := g2 ((0 + j) * 6 + 5); rw [q5] at l5
    obtain ⟨k', e0⟩ := l0.num
    obtain ⟨n', e2⟩ := l2.num
    obtain ⟨s', e3⟩ := l3.str
    exact ⟨k', bb, n', s', _, _, e0, l1.bool, e2, e3, l4.slice, l5.slice, ih v (List.mem_of_getElem? hv) hv1⟩
theorem VOwns_sixes {w : World} {P : Nat → Prop} : ∀ {l : List V} {xs : List (Array Value)}, VOwns w P l xs → ∀ x ∈ xs, x.size = 6 := by
  intro l
  induction l with
  | nil => intro xs h; rw [VOwns] at h; subst h; simp
  | cons a r ih =>
    intro xs h x hx
    obtain ⟨y, q, rfl, g1, g2⟩ := h
    rcases List.mem_cons.1 hx with rfl | hx
    · exact g1.size6
    · exact ih g2 x hx
/-- What was copied has a shape. -/
theorem VOwn.shape {w : World} {P : Nat → Prop} : ∀ {v : V} {x : Array Value}, VOwn w P v x → ∃ k b n s vk vl, x = #[.int .i64 k, .bool b, .int .i64 n, .string s, vk, vl] ∧ VSh w P v vk vl := by
  intro v
  refine V.ind (P := fun v => ∀ {x : Array Value}, VOwn w P v x → ∃ k b n s vk vl, x = #[.int .i64 k, .bool b, .int .i64 n, .string s, vk, vl] ∧ VSh w P v vk vl) (fun k b n t ks l ih x h => ?_) v
  obtain ⟨vk, vl, rfl, h1, xs, h2, h3⟩ := VOwn_iff.1 h
  refine ⟨k, b, n, strB t, vk, vl, rfl, VSh_iff.2 ⟨?_, ?_⟩⟩
  · have hc := fun (g : Nat) (e : vk.ownBlock = some g) => h1.1.cells (g := g) e
    rcases h1.1.2 with ⟨e1, e2⟩ | ⟨g, cap, cur, rfl, _, hg, _⟩
    · exact .inl ⟨e1, e2⟩
    · refine .inr ⟨g, cap, cur, rfl, h1.2 g rfl, hg, fun i hi => ?_⟩
      have := hc g rfl i (strV ks[i]) (by rw [List.getElem?_map, List.getElem?_eq_getElem hi]; rfl)
      rw [addr_add, Nat.zero_add, cell_of_row w g i cur _ _ hg] at this
      exact ⟨_, this⟩
  · have hc := fun (g : Nat) (e : vl.ownBlock = some g) => h2.1.cells (g := g) e
    have h6 := VOwns_sixes h3
    rcases h2.1.2 with ⟨e1, e2⟩ | ⟨g, cap, cur, rfl, _, hg, _⟩
    · exact .inl ⟨e1, e2⟩
    · refine .inr ⟨g, cap, cur, rfl, h2.2 g rfl, hg, VShs_iff.2 fun j v hv => ?_⟩
      obtain ⟨y, hy, hown⟩ := VOwns_get h3 j v hv
      obtain ⟨k', b', n', s', vk', vl', rfl, hsh⟩ := ih v (List.mem_of_getElem? hv) hown
      have cell : ∀ i u, i < 6 → (#[Value.int .i64 k', .bool b', .int .i64 n', .string s', vk', vl'] : Array Value)[i]? = some u → cur[(0 + j) * 6 + i]? = some u := by
        intro i u hi hu
        have := hc g rfl (j * 6 + i) u (by rw [flat_six h6 j _ hy i hi]; exact hu)
        rw [addr_add, Nat.zero_add, cell_of_row w g _ cur _ _ hg] at this
        rw [Nat.zero_add]; exact this
      exact ⟨k', b', n', s', vk', vl', cell 0 _ (by omega) rfl, cell 1 _ (by omega) rfl, cell 2 _ (by omega) rfl, cell 3 _ (by omega) rfl, cell 4 _ (by omega) rfl, cell 5 _ (by omega) rfl, hsh⟩
/-- What spoil keeps of its own. -/
structure SpI (P : Nat → Prop) (W0 : World) (X : Array Value) (W : World) : Prop where
  sp : Spoilt P W0 W
  box : W.heap[W0.heap.size]? = some (.cells X 26 (0, 0))
theorem SpI.next {P : Nat → Prop} {W0 W W' : World} {X : Array Value} (h : SpI P W0 X W) (hP : ∀ b, P b → b < W0.heap.size) (g : Spoilt P W W') : SpI P W0 X W' :=
  ⟨h.sp.trans g, g.touch.heap h.box (fun hp => by have := hP _ hp; omega)⟩
set_option maxRecDepth 100000 in
set_option maxHeartbeats 4000000 in
theorem spoil_any : ∀ (v : V), totV v ≤ 1000000 → ∀ (P : Nat → Prop) (W : World) (k : Int) (b : Bool) (n : Int) (s : ByteArray) (vk vl : Value), VSh W P v vk vl → (∀ q, P q → q < W.heap.size) →
    Calls Tryz.prog 40 #[.agg #[.int .i64 k, .bool b, .int .i64 n, .string s, vk, vl]] W fun e w' => e = .returned (.tuple #[]) ∧ Spoilt P W w' := by
  refine V.ind fun kv bv nv tv ks l ih => ?_
  intro htot P W k b n s vk vl hsh hP
  rw [totV_mk] at htot
  have hlen := totVs_length l
  obtain ⟨hk, hl⟩ := VSh_iff.1 hsh
  obtain ⟨⟨pk, ck, rfl⟩, ⟨pl, cl, rfl⟩⟩ := hsh.slices
  have z1 : (ks.length : Int) ≤ 1000000 := by omega
  have z2 : (l.length : Int) ≤ 1000000 := by omega
  have hI : SpI P W #[.int .i64 k, .bool b, .int .i64 n, .string s, .slice pk ks.length ck, .slice pl l.length cl] (W.alloc (.cells #[.int .i64 k, .bool b, .int .i64 n, .string s, .slice pk ks.length ck, .slice pl l.length cl] 26)) := ⟨Spoilt.of_below (below_new _), heap_alloc_new _ _⟩
  have HK := Lib.hid hk
  have HL := Lib.hid hl
  have HP := Lib.hid hP
  have HC := Lib.hid (fun (v : V) (hv : v ∈ l) => ih v hv (by have := totVs_mem hv; omega))
  have HI := Lib.hid hI
  clear ih hsh hk hl hP hI htot hlen
  simp only [V.keys, V.list] at *
  go_enter Tryz.func40, Tryz.ntmps40
  go_wp2
  go_loopw [2] (fun i wr => ∃ j : Nat, j ≤ ks.length ∧ i = .int .i64 (j : Int) ∧ Hid (SpI P W #[.int .i64 k, .bool b, .int .i64 n, .string s, .slice pk ks.length ck, .slice pl l.length cl] wr)) (fun i _ => ks.length - (intOf i).toNat)
  case atStart => exact ⟨0, Nat.zero_le _, rfl, HI⟩
  case round =>
    clear HI
    obtain ⟨j, hj, rfl, HI⟩ := hrel
    have p4 := cellOf (o := 4) HI.out.box rfl; have p5 := cellOf (o := 5) HI.out.box rfl
    by_cases hlt : j < ks.length
    · have hlt1 : j + 1 ≤ ks.length := hlt
      rcases HK.out.spoilt HI.out.sp with ⟨_, e0⟩ | ⟨g, cap, cs, e, hPg, hg, hcell⟩
      · omega
      · cases e
        obtain ⟨s1, hs1⟩ := hcell j hlt
        have q0 := cellOf (o := j) hg hs1
        have f0 := freeOf (o := j) hg
        have HN := Lib.hid (HI.out.next HP.out (Spoilt.set (o := j) (v := .string ⟨#[63]⟩) hPg hg (by rw [hs1]; exact .inr (.inl ⟨_, _, rfl, rfl⟩))))
        clear hg hPg hs1 hcell HI
        go_wp2
        go_roundw
        case rel => exact ⟨j + 1, hlt1, by go_num, HN⟩
        case measure => simp [intOf]; omega
    · obtain rfl : j = ks.length := by omega
      have HI0 := HI
      go_wp2
      go_loopw [3] (fun i wr => ∃ j : Nat, j ≤ l.length ∧ i = .int .i64 (j : Int) ∧ Hid (SpI P W #[.int .i64 k, .bool b, .int .i64 n, .string s, .slice pk ks.length ck, .slice pl l.length cl] wr)) (fun i _ => l.length - (intOf i).toNat)
      case atStart => exact ⟨0, Nat.zero_le _, rfl, HI0⟩
      case round =>
        clear HI0 HI p4 p5
        obtain ⟨j, hj, rfl, HI⟩ := hrel
        have p4 := cellOf (o := 4) HI.out.box rfl; have p5 := cellOf (o := 5) HI.out.box rfl
        by_cases hlt : j < l.length
        · have hlt1 : j + 1 ≤ l.length := hlt
          rcases HL.out with ⟨_, e0⟩ | ⟨g, cap, cs0, e, hPg, hg0, hsh0⟩
          · omega
          · cases e
            obtain ⟨cs, hg, hlk⟩ := HI.out.sp.like g cs0 _ hPg hg0
            have hat : ∀ (W' : World), Spoilt P W W' → ∀ cs, W'.heap[g]? = some (.cells cs 26 (0, 0)) → ∃ k b n s vk vl, cs[j * 6]? = some (.int .i64 k) ∧ cs[j * 6 + 1]? = some (.bool b) ∧ cs[j * 6 + 2]? = some (.int .i64 n) ∧ cs[j * 6 + 3]? = some (.string s) ∧ cs[j * 6 + 4]? = some vk ∧ cs[j * 6 + 5]? = some vl ∧ VSh W' P l[j] vk vl := by
              intro W' hW cs hc
              obtain ⟨cs', h1, h2⟩ := hW.like g cs0 _ hPg hg0
              rw [hc] at h1; cases h1
              obtain ⟨k1, b1, n1, s1, vk1, vl1, q0, q1, q2, q3, q4, q5, hv1⟩ := VShs_iff.1 hsh0 j _ (List.getElem?_eq_getElem hlt)
              rw [Nat.zero_add] at q0 q1 q2 q3 q4 q5
              obtain ⟨⟨p4, c4, e4⟩, ⟨p5, c5, e5⟩⟩ := hv1.slices
              subst e4 e5
              have l0 := h2 (j * 6); rw [q0] at l0
              have l1 := h2 (j * 6 + 1); rw [q1] at l1
              have l2 := h2 (j * 6 + 2); rw [q2] at l2
              have l3 := h2 (j * 6 + 3); rw [q3] at l3
              have l4 := h2 (j * 6 + 4); rw [q4] at l4
              have l5 := h2 (j * 6 + 5); rw [q5] at l5
              obtain ⟨k', e0⟩ := l0.num
              obtain ⟨n', e2⟩ := l2.num
              obtain ⟨s', e3⟩ := l3.str
              exact ⟨k', _, n', s', _, _, e0, l1.bool, e2, e3, l4.slice, l5.slice, hv1.spoilt hW⟩
            obtain ⟨k1, b1, n1, s1, vk1, vl1, q0, q1, q2, q3, q4, q5, hv1⟩ := hat wr HI.out.sp cs hg
            have a0 := cellOf (o := j * 6) hg q0
            have a1 := cellOf (o := j * 6 + 1) hg q1
            have a2 := cellOf (o := j * 6 + 2) hg q2
            have a3 := cellOf (o := j * 6 + 3) hg q3
            have a4 := cellOf (o := j * 6 + 4) hg q4
            have a5 := cellOf (o := j * 6 + 5) hg q5
            have hcall := HC.out l[j] (List.getElem_mem hlt) P wr k1 b1 n1 s1 vk1 vl1 hv1 (fun q hq => Nat.lt_of_lt_of_le (HP.out q hq) HI.out.sp.touch.size)
            have HD := Lib.hid (And.intro hcall (And.intro hat (And.intro hPg hg0)))
            clear hcall hat hPg hg0 hsh0 hg hlk q0 q1 q2 q3 q4 q5 hv1
            go_wp2_with (first
              | (go_at_call 40
                 (
                  refine HD.out.1.mono ?_
                  rintro e w5 ⟨rfl, hsp⟩
                  have hI5 := HI.out.next HP.out hsp
                  obtain ⟨cs5, hg5, _⟩ := hI5.sp.like g cs0 _ HD.out.2.2.1 HD.out.2.2.2
                  obtain ⟨k5, b5, n5, s5, vk5, vl5, q0, _⟩ := HD.out.2.1 w5 hI5.sp cs5 hg5
                  have d5 := cellOf (o := 5) hI5.box rfl
                  have r0 := cellOf (o := j * 6) hg5 q0
                  have f0 := freeOf (o := j * 6) hg5
                  have HN := Lib.hid (hI5.next HP.out (Spoilt.set (o := j * 6) (v := .int .i64 77) HD.out.2.2.1 hg5 (by rw [q0]; exact .inr (.inr ⟨_, _, rfl, rfl⟩))))
                  clear hsp hI5 hg5 q0 HD HI)))
            go_roundw
            case rel => exact ⟨j + 1, hlt1, by go_num, HN⟩
            case measure => simp [intOf]; omega
        · obtain rfl : j = l.length := by omega
          go_wp2
          exact bodyPost_end (results_none rfl _ _ _) rfl ⟨rfl, HI.out.sp⟩
end Go.Proofs.YtnkaegdnjfpliaaGreatDoor

/-! value.Size. -/
namespace Go.Proofs.YtnkaegdnjfpliaaGreatDoor
set_option linter.unusedSimpArgs false
set_option linter.unusedVariables false
open Go.RowKit

theorem results_cell2 {P : Program} {fn : Func} {p q : Tmp} {ty : TypeId} (h : fn.results = #[.cell p ty, .cell q ty]) (tmps : Array Value) (w : World) (a1 a2 : Addr) (v1 v2 : Value)
    (hp : tmps.getD p undef = .pointer (some a1)) (hq : tmps.getD q undef = .pointer (some a2)) (l1 : (loadVar ty a1).run P w = .ok v1 w) (l2 : (loadVar ty a2).run P w = .ok v2 w) : (results fn tmps).run P w = .ok (.tuple #[v1, v2]) w := by
  have hp' : tmps[p]?.getD undef = .pointer (some a1) := by simpa using hp
  have hq' : tmps[q]?.getD undef = .pointer (some a2) := by simpa using hq
  simp [results, h, hp', hq', asAddr, l1, l2, Result.andThen]
/-! ### Plain -/
def maxD (l : List (Nat × V)) : Nat := (l.map (·.1)).foldr max 0
theorem maxD_append (a b : List (Nat × V)) : maxD (a ++ b) = max (maxD a) (maxD b) := by
  induction a with
  | nil => simp [maxD]
  | cons e r ih => unfold maxD at *; simp only [List.cons_append, List.map_cons, List.foldr_cons]; rw [ih]; omega
theorem maxD_snoc (a : List (Nat × V)) (e : Nat × V) : maxD (a ++ [e]) = max (maxD a) e.1 := by rw [maxD_append]; simp [maxD]
theorem maxD_any (l : List (Nat × V)) (K : Nat) : l.any (fun e => decide (K < e.1)) = decide (K < maxD l) := by
  induction l with
  | nil => simp [maxD]
  | cons e r ih =>
    rw [List.any_cons, ih, Bool.eq_iff_iff]
    simp only [Bool.or_eq_true, decide_eq_true_eq]
    unfold maxD
    simp only [List.map_cons, List.foldr_cons]
    omega
theorem maxD_pre (v : V) : maxD (preV 1 v) = deepV v := by
  have h := (sums_pre v 1).2.2.1
  have h1 : ∀ K, K < maxD (preV 1 v) ↔ K < deepV v := fun K => by
    have := h K
    rw [maxD_any, decide_eq_decide] at this
    omega
  rcases Nat.lt_trichotomy (maxD (preV 1 v)) (deepV v) with h2 | h2 | h2
  · have := (h1 _).2 h2; omega
  · exact h2
  · have := (h1 _).1 h2; omega
theorem len_pre : ∀ v : V, ∀ d, (preV d v).length = countV v := by
  refine V.ind fun k b n t ks l ih => ?_
  have hl : ∀ (m : List V), (∀ v ∈ m, v ∈ l) → ∀ d, (preVs d m).length = countVs m := by
    intro m
    induction m with
    | nil => intro _ d; rfl
    | cons a r ihr => intro hm d; rw [preVs, List.length_append, countVs, ih a (hm a (by simp)), ihr (fun v hv => hm v (by simp [hv]))]
  intro d
  rw [preV, List.length_cons, countV, hl l (fun _ h => h)]
  omega
theorem count_tot : ∀ v : V, countV v ≤ totV v := by
  refine V.ind fun k b n t ks l ih => ?_
  have hl : ∀ m : List V, (∀ v ∈ m, v ∈ l) → countVs m ≤ totVs m := by
    intro m
    induction m with
    | nil => intro _; simp [countVs]
    | cons a r ihr => intro hm; rw [countVs, totVs_cons]; have := ih a (hm a (by simp)); have := ihr (fun v hv => hm v (by simp [hv])); omega
  rw [countV, totV_mk]
  have := hl l (fun v hv => hv)
  omega
/-- What Size tells. -/
def sizeF (v : V) : Nat × Nat := if okV v then (countV v, deepV v) else (0, 0)
/-- Size's own blocks. -/
structure MidS (w : World) (B : Nat) (x : Array Value) (n m : Nat) (W : World) : Prop where
  below : Below w.heap.size w W
  box : W.heap[B]? = some (.cells x 26 (0, 0))
  cnt : W.heap[w.heap.size + 1]? = some (.cells #[.int .i64 (n : Int)] 3 (0, 0))
  dep : W.heap[w.heap.size + 2]? = some (.cells #[.int .i64 (m : Int)] 3 (0, 0))
theorem MidS.touch {w W W' : World} {B : Nat} {x : Array Value} {n m : Nat} {S : Nat → Prop} (h : MidS w B x n m W) (g : Touch S W W') (h1 : ∀ b, b ≤ w.heap.size + 2 → ¬ S b) (hB : ¬ S B) : MidS w B x n m W' :=
  ⟨g.below h.below (fun b hb => h1 b (by omega)) h.below.size, g.heap h.box hB, g.heap h.cnt (h1 _ (by omega)), g.heap h.dep (h1 _ (by omega))⟩
theorem MidS.setN {w W : World} {B : Nat} {x : Array Value} {n m : Nat} (h : MidS w B x n m W) (hB : w.heap.size + 3 ≤ B) (k : Nat) : MidS w B x k m (W.setCell ⟨w.heap.size + 1, 0, none⟩ (.int .i64 (k : Int))) := by
  have o : ∀ b, b ≠ w.heap.size + 1 → (W.setCell ⟨w.heap.size + 1, 0, none⟩ (.int .i64 (k : Int))).heap[b]? = W.heap[b]? := fun b hb => Below.heap_setCell _ _ _ _ hb
  exact ⟨belowSet h.below (by omega) _, (o _ (by omega)).trans h.box, box_set _ h.cnt, (o _ (by omega)).trans h.dep⟩
theorem MidS.setM {w W : World} {B : Nat} {x : Array Value} {n m : Nat} (h : MidS w B x n m W) (hB : w.heap.size + 3 ≤ B) (k : Nat) : MidS w B x n k (W.setCell ⟨w.heap.size + 2, 0, none⟩ (.int .i64 (k : Int))) := by
  have o : ∀ b, b ≠ w.heap.size + 2 → (W.setCell ⟨w.heap.size + 2, 0, none⟩ (.int .i64 (k : Int))).heap[b]? = W.heap[b]? := fun b hb => Below.heap_setCell _ _ _ _ hb
  exact ⟨belowSet h.below (by omega) _, (o _ (by omega)).trans h.box, (o _ (by omega)).trans h.cnt, box_set _ h.dep⟩
/-- Which blocks a round turns. -/
def SS (w : World) (b : Nat) : Prop := b = w.heap.size + 1 ∨ b = w.heap.size + 2
theorem four_blocks (w : World) (o0 o1 o2 o3 : Obj) : Below w.heap.size w ((((w.alloc o0).alloc o1).alloc o2).alloc o3) ∧ ((((w.alloc o0).alloc o1).alloc o2).alloc o3).heap[w.heap.size]? = some o0 ∧ ((((w.alloc o0).alloc o1).alloc o2).alloc o3).heap[w.heap.size + 1]? = some o1 ∧
    ((((w.alloc o0).alloc o1).alloc o2).alloc o3).heap[w.heap.size + 2]? = some o2 ∧ ((((w.alloc o0).alloc o1).alloc o2).alloc o3).heap[w.heap.size + 1 + 1 + 1]? = some o3 := by
  refine ⟨(((below_new _).alloc (by simp) _).alloc (by simp; omega) _).alloc (by simp; omega) _, ?_, ?_, ?_, ?_⟩ <;>
  · simp only [heap_get_alloc, World.size_alloc]; repeat (first | rfl | rw [if_pos (by omega)] | rw [if_neg (by omega)])
theorem fine_one {w W : World} {v : V} {c0 c1 c2 c3 c4 c5 : Value} (hE : Env w) (hb : Below w.heap.size w W) {g : Nat} (hg : W.heap[g]? = some (.cells #[c0, c1, c2, c3, c4, c5] 26 (0, 0))) (hv : VRd w v #[c0, c1, c2, c3, c4, c5]) (ht : totV v ≤ 1099511627776) :
    Calls Tryz.prog 62 #[.slice (some ⟨g, 0, none⟩) 1 1] W fun e w' => e = .returned (.bool (okV v)) ∧ Below W.heap.size W w' := by
  refine (fine_any (hE.b hb) (LRd.one hg (hv.below hb)) (by simp only [totVs]; omega)).mono ?_
  rintro e w' ⟨rfl, hb'⟩
  exact ⟨ret_bool (by simp [fineL]), hb'⟩
set_option maxRecDepth 100000 in
set_option maxHeartbeats 4000000 in
theorem sizePub_any {v : V} {w : World} {x : Array Value} (hE : Env w) (hx : VRd w v x) (ht : totV v ≤ 1099511627776) :
    Calls Tryz.prog 50 #[.agg x] w fun e w' => e = .returned (.tuple #[.int .i64 ((sizeF v).1 : Int), .int .i64 ((sizeF v).2 : Int)]) ∧ Below w.heap.size w w' := by
  have hx0 := hx
  obtain ⟨pk, ck, pl, cl, rfl, _, _, _⟩ := hx.open
  obtain ⟨hb0, g0, g1, g2, g3⟩ := four_blocks w (.cells #[.int .i64 v.kind, .bool v.b, .int .i64 v.n, .string (strB v.text), .slice pk v.keys.length ck, .slice pl v.list.length cl] 26) (.cells #[.int .i64 0] 3) (.cells #[.int .i64 0] 3) (.cells #[.int .i64 v.kind, .bool v.b, .int .i64 v.n, .string (strB v.text), .slice pk v.keys.length ck, .slice pl v.list.length cl] 26)
  have HF := Lib.hid (fine_one hE hb0 g3 hx0 ht)
  have HM := Lib.hid (And.intro hb0 (And.intro g0 (And.intro g1 g2)))
  clear hb0 g0 g1 g2 g3
  have hcl := count_tot v
  have hln := len_pre v 1
  have hmd := maxD_pre v
  have HX := Lib.hid hx0
  have HR := Lib.hid (show sizeF v = if okV v then (countV v, deepV v) else (0, 0) from rfl)
  generalize sizeF v = R at *
  clear hx hx0 hE
  cases hok : okV v with
  | false =>
    rw [hok] at HF HR
    have HR0 := Lib.hid (show R = (0, 0) from HR.out)
    clear hcl hln hmd HX hok ht HR
    go_enter Tryz.func50, Tryz.ntmps50
    go_wp2_with (first
      | (go_at_call 62
         (
          refine HF.out.mono ?_
          rintro e w2 ⟨rfl, hb⟩
          have h1 := belowBlk hb (Array.getElem?_eq_some_iff.1 HM.out.2.2.1).1 HM.out.2.2.1
          have h2 := belowBlk hb (Array.getElem?_eq_some_iff.1 HM.out.2.2.2).1 HM.out.2.2.2
          have c1 := cellOf (o := 0) h1 rfl
          have c2 := cellOf (o := 0) h2 rfl
          have f1 := freeOf (o := 0) h1
          have f2 := freeOf (o := 0) h2
          have HB := Lib.hid (And.intro (below_trans HM.out.1 hb) (And.intro h1 h2))
          clear hb h1 h2 HF HM)))
    have hb2 := belowSet (belowSet HB.out.1 (show w.heap.size ≤ w.heap.size + 1 by omega) (o := 0) (.int .i64 0)) (show w.heap.size ≤ w.heap.size + 2 by omega) (o := 0) (.int .i64 0)
    have k1 := box_set (k := 0) (.int .i64 0) HB.out.2.1
    have k2 := box_set (k := 0) (.int .i64 0) ((Below.heap_setCell w2 ⟨w.heap.size + 1, 0, none⟩ (.int .i64 0) (w.heap.size + 2) (by show w.heap.size + 2 ≠ w.heap.size + 1; omega)).trans HB.out.2.2)
    have k3 := (Below.heap_setCell (w2.setCell ⟨w.heap.size + 1, 0, none⟩ (.int .i64 0)) ⟨w.heap.size + 2, 0, none⟩ (.int .i64 0) (w.heap.size + 1) (by show w.heap.size + 1 ≠ w.heap.size + 2; omega)).trans k1
    exact bodyPost_ret (results_cell2 rfl _ _ ⟨w.heap.size + 1, 0, none⟩ ⟨w.heap.size + 2, 0, none⟩ _ _ rfl rfl (run_load1 Tryz.underlying3 rfl (cellOf (o := 0) k3 rfl)) (run_load1 Tryz.underlying3 rfl (cellOf (o := 0) k2 rfl))) rfl ⟨by rw [HR0.out]; rfl, hb2⟩
  | true =>
    rw [hok] at HF HR
    have HR0 := Lib.hid (show R = (countV v, deepV v) from HR.out)
    clear HR hok
    refine calls_of_wp_marks Tryz.func50 rfl ?_
    simp only [Tryz.ntmps50, List.size_toArray, List.length_cons, List.length_nil, Nat.reduceAdd, Nat.reduceSub, Array.replicate_succ, Array.replicate_zero, List.push_toArray, List.append_toArray, List.nil_append, List.cons_append]
    go_wp2_with (first
      | (go_at_call 62
         (
          refine HF.out.mono ?_
          rintro e w2 ⟨rfl, hb⟩
          have h0 := belowBlk hb (Array.getElem?_eq_some_iff.1 HM.out.2.1).1 HM.out.2.1
          have h1 := belowBlk hb (Array.getElem?_eq_some_iff.1 HM.out.2.2.1).1 HM.out.2.2.1
          have h2 := belowBlk hb (Array.getElem?_eq_some_iff.1 HM.out.2.2.2).1 HM.out.2.2.2
          have px0 := cellOf (o := 0) h0 rfl; have px1 := cellOf (o := 1) h0 rfl; have px2 := cellOf (o := 2) h0 rfl; have px3 := cellOf (o := 3) h0 rfl; have px4 := cellOf (o := 4) h0 rfl; have px5 := cellOf (o := 5) h0 rfl
          have HB := Lib.hid (And.intro (below_trans HM.out.1 hb) (And.intro h1 h2))
          clear hb h0 h1 h2 HF HM))
      | (go_at_call 85; refine (all_any _ _ _ _ _ _ _ rfl _).mono ?_; rintro e w' ⟨rfl, rfl⟩))
    have hb1 := below_new (w := w2) (.cells #[.int .i64 v.kind, .bool v.b, .int .i64 v.n, .string (strB v.text), .slice pk v.keys.length ck, .slice pl v.list.length cl] 26)
    have hM : MidS w w2.heap.size #[.int .i64 v.kind, .bool v.b, .int .i64 v.n, .string (strB v.text), .slice pk v.keys.length ck, .slice pl v.list.length cl] 0 0 (w2.alloc (.cells #[.int .i64 v.kind, .bool v.b, .int .i64 v.n, .string (strB v.text), .slice pk v.keys.length ck, .slice pl v.list.length cl] 26)) :=
      ⟨below_trans HB.out.1 hb1, heap_alloc_new _ _, belowBlk hb1 (Array.getElem?_eq_some_iff.1 HB.out.2.1).1 HB.out.2.1, belowBlk hb1 (Array.getElem?_eq_some_iff.1 HB.out.2.2).1 HB.out.2.2⟩
    have hBz : w.heap.size + 3 ≤ w2.heap.size := (Array.getElem?_eq_some_iff.1 HB.out.2.2).1
    have hs1 : (w2.alloc (.cells #[.int .i64 v.kind, .bool v.b, .int .i64 v.n, .string (strB v.text), .slice pk v.keys.length ck, .slice pl v.list.length cl] 26)).heap.size = w2.heap.size + 1 := by simp
    generalize w2.alloc (.cells #[.int .i64 v.kind, .bool v.b, .int .i64 v.n, .string (strB v.text), .slice pk v.keys.length ck, .slice pl v.list.length cl] 26) = W1 at *
    generalize w2.heap.size = B at *
    clear HB hb1 px0 px1 px2 px3 px4 px5
    refine wp_rangeA (gf := 112) (gfn := Tryz.f112) (lb := #[.pointer (some ⟨B, 0, none⟩)]) rfl Tryz.func112 rfl rfl
      (iter_all (w0 := w) B HX.out (by omega)) (fun _ => rfl)
      (fun pre W => MidS w B #[.int .i64 v.kind, .bool v.b, .int .i64 v.n, .string (strB v.text), .slice pk v.keys.length ck, .slice pl v.list.length cl] pre.length (maxD (pre.map dv)) W)
      (fun c W => False)
      (SS w) (fun b hb => by unfold SS at hb; omega) ?h0 ?hpre ?hkeep ?hput ?hputx ?hround ?hdone ?hstop
    case h0 =>
      intro W hB' hsz
      exact hM.touch (Touch.of_below hB' (S := fun b => W1.heap.size ≤ b) (fun b _ hb => hb)) (fun b hb => by omega) (by omega)
    case hpre => exact fun pre W h => ⟨h.below, h.box⟩
    case hkeep => exact fun pre W W' h hs hk => h.touch hk (fun b hb => by omega) (by omega)
    case hput =>
      intro pre W o h
      have hp : Touch (fun b => b = W1.heap.size + 1) W (W.putObj (W1.heap.size + 1) o) := (Touch.refl _ _).putObj (.inl (by exact rfl)) o
      exact h.touch hp (fun b hb => by omega) (by omega)
    case hputx => exact fun _ _ _ h => h
    case hstop => exact fun _ _ h => h.elim
    case hdone =>
      rintro xs W ⟨hok2, hall⟩ hI hD
      have hlx : xs.length = countV v := by rw [← hln, hall, List.length_map]
      rw [← hall, hmd, hlx] at hI
      have hI0 : MidS w B #[.int .i64 v.kind, .bool v.b, .int .i64 v.n, .string (strB v.text), .slice pk v.keys.length ck, .slice pl v.list.length cl] (countV v) (deepV v) W.drew := ⟨hI.below.drew, hI.box, hI.cnt, hI.dep⟩
      have hMid := Lib.hid (And.intro hI (And.intro hD (And.intro hs1 hBz)))
      clear hok2 hall hI hD hM hln hmd hlx hcl ht
      generalize countV v = n at *
      generalize deepV v = m at *
      go_wp2
      refine plain_region_draws (fun W => MidS w B #[.int .i64 v.kind, .bool v.b, .int .i64 v.n, .string (strB v.text), .slice pk v.keys.length ck, .slice pl v.list.length cl] n m W) (by kernel_rfl) hI0 (fun hU => ?_)
      refine take 0 18 (v := .int .i64 (n : Int)) rfl rfl (by kernel_rfl) (by kernel_rfl) (by kernel_rfl) rfl (fun W hW => exec_load rfl rfl (run_load1 (w := W) Tryz.underlying3 rfl (cellOf (o := 0) hW.cnt rfl))) (by assumption) ?_
      simp only [Act.put, List.setIfInBounds_toArray, List.set_cons_zero, List.set_cons_succ]
      refine take 1 19 (v := .int .i64 (m : Int)) rfl rfl (by kernel_rfl) (by kernel_rfl) (by kernel_rfl) rfl (fun W hW => exec_load rfl rfl (run_load1 (w := W) Tryz.underlying3 rfl (cellOf (o := 0) hW.dep rfl))) (by assumption) ?_
      simp only [Act.put, List.setIfInBounds_toArray, List.set_cons_zero, List.set_cons_succ]
      have hU1 := hU.setN hBz n
      refine onlySkip 2 rfl rfl (by kernel_rfl) rfl (exec_store rfl rfl rfl (put_n (cellOf (o := 0) hU.cnt rfl) (freeOf (o := 0) hU.cnt))) (.inr hU1) ?_
      refine onlySkip 3 rfl rfl (by kernel_rfl) rfl (exec_store rfl rfl rfl (put_n (cellOf (o := 0) hU1.dep rfl) (freeOf (o := 0) hU1.dep))) (.inl (by kernel_rfl)) ?_
      refine done (by kernel_rfl) ?_ _
      clear hI0 hU hU1 hs1 hBz
      go_wp2
      obtain ⟨hI1, hD1, hs1, hBz⟩ := hMid.out
      have hI : MidS w B #[.int .i64 v.kind, .bool v.b, .int .i64 v.n, .string (strB v.text), .slice pk v.keys.length ck, .slice pl v.list.length cl] n m W.drew := ⟨hI1.below.drew, hI1.box, hI1.cnt, hI1.dep⟩
      have hD : W.drew.heap[W1.heap.size]? = some (.deferred (some [])) := hD1
      generalize W.drew = W at *
      have hI2 := (hI.setN hBz n).setM hBz m
      have hD2 := (Below.heap_setCell (W.setCell ⟨w.heap.size + 1, 0, none⟩ (.int .i64 (n : Int))) ⟨w.heap.size + 2, 0, none⟩ (.int .i64 (m : Int)) W1.heap.size (by show W1.heap.size ≠ w.heap.size + 2; omega)).trans ((Below.heap_setCell W ⟨w.heap.size + 1, 0, none⟩ (.int .i64 (n : Int)) W1.heap.size (by show W1.heap.size ≠ w.heap.size + 1; omega)).trans hD)
      have hp : Touch (fun b => b = W1.heap.size) ((W.setCell ⟨w.heap.size + 1, 0, none⟩ (.int .i64 (n : Int))).setCell ⟨w.heap.size + 2, 0, none⟩ (.int .i64 (m : Int))) (((W.setCell ⟨w.heap.size + 1, 0, none⟩ (.int .i64 (n : Int))).setCell ⟨w.heap.size + 2, 0, none⟩ (.int .i64 (m : Int))).putObj W1.heap.size (.deferred none)) := (Touch.refl _ _).putObj (.inl (by exact rfl)) _
      have hI3 := hI2.touch hp (fun b hb => by omega) (by omega)
      refine leave_mark (v := .tuple #[.int .i64 (n : Int), .int .i64 (m : Int)]) hD2 ?_ ?_
      · exact results_cell2 rfl _ _ ⟨w.heap.size + 1, 0, none⟩ ⟨w.heap.size + 2, 0, none⟩ _ _ rfl rfl (run_load1 Tryz.underlying3 rfl (cellOf (o := 0) hI3.cnt rfl)) (run_load1 Tryz.underlying3 rfl (cellOf (o := 0) hI3.dep rfl))
      · exact ⟨by rw [HR0.out], hI3.below⟩
    case hround =>
      rintro r0 r' pre ⟨d, s1, x1⟩ W hok2 hI hsz hl
      have hv1 : VRd w s1 x1 := hok2.2 _ (List.mem_append_right _ (List.mem_singleton.2 rfl))
      obtain ⟨rest, hrest⟩ := hok2.1
      rw [List.map_append] at hrest
      have hlen : pre.length + 1 ≤ 1099511627776 := by
        have := congrArg List.length hrest
        rw [hln] at this
        simp only [List.length_append, List.length_map, List.length_cons, List.length_nil] at this
        omega
      have hdl : (pre ++ [((d, s1, x1) : Yd)]).length = pre.length + 1 := by simp
      have hdm : maxD ((pre ++ [((d, s1, x1) : Yd)]).map dv) = max (maxD (pre.map dv)) d := by rw [List.map_append]; exact maxD_snoc _ (d, s1)
      rw [hdl, hdm]
      obtain ⟨pk1, ck1, pl1, cl1, rfl, _, _, _⟩ := hv1.open
      clear hv1 hrest hok2 hM hln hmd hcl ht hdl hdm HX HR0
      generalize maxD (pre.map dv) = m at *
      generalize pre.length = n at *
      simp only [encY]
      refine round_region (by kernel_rfl) ?_
      go_wp2
      refine ⟨Touch.refl _ _, hl, fun w₂ hw2 => ?_⟩
      have hp : Touch (fun b => b = W1.heap.size + 1) W w₂ := by rw [hw2]; exact (Touch.refl _ _).putObj (.inl (by exact rfl)) _
      have hI2 := hI.touch hp (fun b hb => by omega) (by omega)
      have z1 : (n : Int) + 1 ≤ 1099511627776 := by omega
      clear hw2 hp hI hl hlen
      have c1 := cellOf (o := 0) hI2.cnt rfl
      have f1 := freeOf (o := 0) hI2.cnt
      have hI3 := hI2.setN hBz (n + 1)
      have hT3 : Touch (SS w) w₂ (w₂.setCell ⟨w.heap.size + 1, 0, none⟩ (.int .i64 ((n + 1 : Nat) : Int))) := (Touch.refl _ _).setCell (.inl (.inl rfl)) _
      rw [Int.natCast_add] at hI3 hT3
      have HI3 := Lib.hid (And.intro hI3 hT3)
      clear hI2 hI3 hT3
      refine wpIn_block ?_
      refine wpIn_seq_k (fun K2 hK2 => ?_)
      refine round_region (by kernel_rfl) ?_
      go_wp2
      refine hK2 _ _ ?_
      obtain ⟨hI3, hT3⟩ := HI3.out
      clear c1 f1 HI3
      generalize w₂.setCell ⟨w.heap.size + 1, 0, none⟩ (.int .i64 ((n : Int) + 1)) = w3 at *
      have c2 := cellOf (o := 0) hI3.dep rfl
      have f2 := freeOf (o := 0) hI3.dep
      have hI4 := hI3.setM hBz (max m d)
      have hT4 : Touch (SS w) w₂ (w3.setCell ⟨w.heap.size + 2, 0, none⟩ (.int .i64 ((max m d : Nat) : Int))) := hT3.setCell (.inl (.inr rfl)) _
      have HI4 := Lib.hid (And.intro hT4 hI4)
      clear hI3 hT3 hI4 hT4
      refine round_region (by kernel_rfl) ?_
      go_wp2_with (refine wpList_run rfl (exec_max (n := m) (m := d) rfl rfl rfl) ?_)
      exact HI4.out
end Go.Proofs.YtnkaegdnjfpliaaGreatDoor

/-! The document's Storable. Printed by gen_storr.py. -/
namespace Go.Proofs.YtnkaegdnjfpliaaGreatDoor
set_option linter.unusedSimpArgs false
set_option linter.unusedVariables false
open Go.RowKit

/-- A box, and two kinds of its list. -/
structure StoU (w : World) (X : Array Value) (g o q : Nat) (kj k0 : Int) (W : World) : Prop where
  one : OneB w W X
  kj : W.cell? ⟨g, q, none⟩ = some (.int .i64 kj)
  k0 : W.cell? ⟨g, o, none⟩ = some (.int .i64 k0)
/-- Kinds are the first one's so far. -/
def SameK (l : List V) (j : Nat) : Prop := ∀ i v u, i < j → l[i]? = some v → l[0]? = some u → v.kind = u.kind
theorem badB_eq (k k0 : Int) : badB k k0 = true ↔ k ≠ k0 ∨ k < 1 ∨ 3 < k := by unfold badB; simp [Bool.or_eq_true, or_assoc]
theorem storL_bad {l : List V} {i : Nat} {v u : V} (h : l[i]? = some v) (h0 : l[0]? = some u) (hk : v.kind ≠ u.kind) : storL l = false := by
  unfold storL
  rw [List.all_eq_false]
  refine ⟨v, List.mem_of_getElem? h, ?_⟩
  have e : (l.map V.kind).headD 0 = u.kind := by cases l with
    | nil => simp at h0
    | cons a r => simp only [List.getElem?_cons_zero, Option.some.injEq] at h0; subst h0; rfl
  rw [e, (badB_eq _ _).2 (.inl hk)]; simp
theorem storL_same {l : List V} {u : V} (h0 : l[0]? = some u) (hs : SameK l l.length) : storL l = (decide (1 ≤ u.kind) && decide (u.kind ≤ 3)) := by
  have e : (l.map V.kind).headD 0 = u.kind := by cases l with
    | nil => simp at h0
    | cons a r => simp only [List.getElem?_cons_zero, Option.some.injEq] at h0; subst h0; rfl
  have hall : ∀ x ∈ l, x.kind = u.kind := fun x hx => by
    obtain ⟨i, hi, rfl⟩ := List.getElem_of_mem hx
    exact hs i _ _ hi (List.getElem?_eq_getElem hi) h0
  unfold storL
  rw [e, Bool.eq_iff_iff, List.all_eq_true]
  simp only [Bool.and_eq_true, decide_eq_true_eq, Bool.not_eq_true']
  constructor
  · intro h
    have := h u (List.mem_of_getElem? h0)
    have hb : (u.kind ≠ u.kind ∨ u.kind < 1 ∨ 3 < u.kind) → False := fun hh => by rw [(badB_eq u.kind u.kind).2 hh] at this; cases this
    constructor
    · by_cases h1 : u.kind < 1
      · exact (hb (.inr (.inl h1))).elim
      · omega
    · by_cases h1 : 3 < u.kind
      · exact (hb (.inr (.inr h1))).elim
      · omega
  · rintro ⟨h1, h2⟩ x hx
    rw [hall x hx]
    cases hb : badB u.kind u.kind with
    | false => rfl
    | true => rcases (badB_eq _ _).1 hb with h | h | h <;> omega
theorem storL_one (v : V) : storL [v] = (decide (1 ≤ v.kind) && decide (v.kind ≤ 3)) := storL_same (u := v) rfl (fun i x u hi h h0 => by
  have : i = 0 := by simpa using hi
  subst this; rw [h] at h0; cases h0; rfl)
theorem kinds3 (k : Int) : ((k == 1) = true ∧ (decide (1 ≤ k) && decide (k ≤ 3)) = true) ∨ ((k == 1) = false ∧ (k == 2) = true ∧ (decide (1 ≤ k) && decide (k ≤ 3)) = true) ∨ ((k == 1) = false ∧ (k == 2) = false ∧ (k == 3) = true ∧ (decide (1 ≤ k) && decide (k ≤ 3)) = true) ∨ ((k == 1) = false ∧ (k == 2) = false ∧ (k == 3) = false ∧ (decide (1 ≤ k) && decide (k ≤ 3)) = false) := by
  by_cases h1 : k = 1
  · subst h1; exact .inl ⟨rfl, rfl⟩
  · by_cases h2 : k = 2
    · subst h2; exact .inr (.inl ⟨rfl, rfl, rfl⟩)
    · by_cases h3 : k = 3
      · subst h3; exact .inr (.inr (.inl ⟨rfl, rfl, rfl, rfl⟩))
      · refine .inr (.inr (.inr ⟨by simpa using h1, by simpa using h2, by simpa using h3, ?_⟩))
        rw [Bool.and_eq_false_iff, decide_eq_false_iff_not, decide_eq_false_iff_not]; omega
set_option maxRecDepth 100000 in
set_option maxHeartbeats 4000000 in
theorem storR_any {v : V} {w : World} {x : Array Value} (hx : VRd w v x) (ho : okV v = true) :
    Calls Tryz.prog 54 #[.agg x] w fun e w' => e = .returned (.bool (storB v)) ∧ Below w.heap.size w w' := by
  obtain ⟨pk, ck, pl, cl, rfl, htx, hk1, hl1⟩ := hx.open
  have hF := oneV_iff.1 (mayV_iff.1 (okV_may ho)).1
  have hls : v.kind ≠ 4 → v.kind ≠ 5 → v.list = [] := hF.list
  have hR : storB v = storL (if v.kind = 4 then v.list else [v]) := rfl
  have hbad : ∀ (i : Nat) (s u : V), v.list[i]? = some s → v.list[0]? = some u → s.kind ≠ u.kind → storB v = false := by
    intro i s u h h0 hne
    by_cases h4 : v.kind = 4
    · rw [hR, if_pos h4]; exact storL_bad h h0 hne
    · by_cases h5 : v.kind = 5
      · rw [hR, if_neg h4, storL_one, h5]; rfl
      · rw [hls h4 h5] at h; simp at h
  have hend : SameK v.list v.list.length → storB v = if v.kind = 4 then (match v.list[0]? with | some u => decide (1 ≤ u.kind) && decide (u.kind ≤ 3) | none => true) else (decide (1 ≤ v.kind) && decide (v.kind ≤ 3)) := by
    intro hs
    by_cases h4 : v.kind = 4
    · rw [hR, if_pos h4, if_pos h4]
      cases h0 : v.list[0]? with
      | none =>
        have : v.list = [] := by cases hv : v.list with
          | nil => rfl
          | cons a r => rw [hv] at h0; simp at h0
        rw [this]; rfl
      | some u => exact storL_same h0 hs
    · rw [hR, if_neg h4, if_neg h4, storL_one]
  generalize storB v = R at *
  have hT := OneB.start w #[.int .i64 v.kind, .bool v.b, .int .i64 v.n, .string (strB v.text), .slice pk v.keys.length ck, .slice pl v.list.length cl]
  have z1 : (v.list.length : Int) ≤ 140737488355328 := by have := hl1.1.2.1; omega
  have px0 := cellOf (o := 0) hT.1 rfl; have px5 := cellOf (o := 5) hT.1 rfl
  have HT := Lib.hid hT
  have HL := Lib.hid hl1
  have HB := Lib.hid hbad
  have HE := Lib.hid hend
  clear hx hk1 hl1 hT hbad hend hR hls hF ho
  go_enter Tryz.func54, Tryz.ntmps54
  go_wp2
  clear px0 px5
  go_loopw [3] (fun i W => ∃ j : Nat, j ≤ v.list.length ∧ i = .int .i64 (j : Int) ∧ Hid (SameK v.list j ∧ OneB w W #[.int .i64 v.kind, .bool v.b, .int .i64 v.n, .string (strB v.text), .slice pk v.keys.length ck, .slice pl v.list.length cl])) (fun i _ => v.list.length - (intOf i).toNat)
  case atStart => exact ⟨0, Nat.zero_le _, rfl, Lib.hid ⟨fun i _ _ hi => by omega, HT.out⟩⟩
  case round =>
    clear HT
    obtain ⟨j, hj, rfl, HJ⟩ := hrel
    have hT1 := HJ.out.2
    have px0 := cellOf (o := 0) hT1.1 rfl; have px5 := cellOf (o := 5) hT1.1 rfl
    by_cases hlt : j < v.list.length
    · have hlt1 : j + 1 ≤ v.list.length := hlt
      have hpos : 0 < v.list.length := by omega
      have hbd : Below w.heap.size w wr.drew := below_trans hT1.2 (Below.refl _ _).drew
      obtain ⟨g1, o1, pk1, ck1, pl1, cl1, rfl, ⟨a0, _⟩, _⟩ := (HL.out.below hbd).at hlt
      obtain ⟨g2, o2, pk2, ck2, pl2, cl2, e2, ⟨q0, _⟩, _⟩ := (HL.out.below hbd).at hpos
      cases e2
      have hsj : v.list[j]? = some v.list[j] := List.getElem?_eq_getElem hlt
      have hs0 : v.list[0]? = some v.list[0] := List.getElem?_eq_getElem hpos
      rw [Nat.zero_mul, Nat.add_zero] at q0
      have hstep : v.list[j].kind = v.list[0].kind → SameK v.list (j + 1) := fun e i s u hi h h0 => by
        by_cases hij : i = j
        · subst hij; rw [hsj] at h; rw [hs0] at h0; cases h; cases h0; exact e
        · exact HJ.out.1 i s u (by omega) h h0
      have hbad2 : v.list[j].kind ≠ v.list[0].kind → R = false := HB.out j _ _ hsj hs0
      generalize v.list[j].kind = kj at *
      generalize v.list[0].kind = k0 at *
      have hU0 : StoU w #[.int .i64 v.kind, .bool v.b, .int .i64 v.n, .string (strB v.text), .slice pk v.keys.length ck, .slice (some ⟨g1, o1, none⟩) v.list.length cl] g1 o1 (o1 + j * 6) kj k0 wr.drew := ⟨hT1.below (Below.refl _ _).drew, a0, q0⟩
      clear a0 q0 hsj hs0 hbd hT1
      by_cases e : kj = k0
      · have HS := Lib.hid (hstep e)
        have hne : ∀ W, (binOp .neq 22 (.int .i64 kj) (.int .i64 k0)).run Tryz.prog W = .ok (.bool false) W := fun W => by simp [go_sem, e]
        clear hstep hbad2 e HJ
        go_wp2
        refine plain_region_draws (fun W => StoU w #[.int .i64 v.kind, .bool v.b, .int .i64 v.n, .string (strB v.text), .slice pk v.keys.length ck, .slice (some ⟨g1, o1, none⟩) v.list.length cl] g1 o1 (o1 + j * 6) kj k0 W) (by kernel_rfl) hU0 (fun hU => ?_)
        refine take 0 12 (v := .pointer (some ⟨w.heap.size, 5, none⟩)) rfl rfl (by kernel_rfl) (by kernel_rfl) (by kernel_rfl) rfl (fun W hW => exec_fieldAddr rfl rfl (fa_value _ _ (by decide) W)) (by assumption) ?_
        simp only [Act.put, List.setIfInBounds_toArray, List.set_cons_zero, List.set_cons_succ]
        refine take 1 13 (v := .slice (some ⟨g1, o1, none⟩) v.list.length cl) rfl rfl (by kernel_rfl) (by kernel_rfl) (by kernel_rfl) rfl (fun W hW => exec_load rfl rfl (run_load1 (w := W) Tryz.underlying24 rfl (cellOf hW.one.1 rfl))) (by assumption) ?_
        simp only [Act.put, List.setIfInBounds_toArray, List.set_cons_zero, List.set_cons_succ]
        refine take 2 14 (v := .int .i64 (j : Int)) rfl rfl (by kernel_rfl) (by kernel_rfl) (by kernel_rfl) rfl (fun W hW => exec_move rfl rfl) (by assumption) ?_
        simp only [Act.put, List.setIfInBounds_toArray, List.set_cons_zero, List.set_cons_succ]
        refine take 3 15 (v := .pointer (some ⟨g1, o1 + j * 6, none⟩)) rfl rfl (by kernel_rfl) (by kernel_rfl) (by kernel_rfl) rfl (fun W hW => exec_indexAddr rfl rfl rfl (ia_vals _ _ _ _ _ hlt W)) (by assumption) ?_
        simp only [Act.put, List.setIfInBounds_toArray, List.set_cons_zero, List.set_cons_succ]
        refine take 4 16 (v := .pointer (some ⟨g1, o1 + j * 6, none⟩)) rfl rfl (by kernel_rfl) (by kernel_rfl) (by kernel_rfl) rfl (fun W hW => exec_fieldAddr rfl rfl (fa_first _ _ W)) (by assumption) ?_
        simp only [Act.put, List.setIfInBounds_toArray, List.set_cons_zero, List.set_cons_succ]
        refine take 5 17 (v := .int .i64 kj) rfl rfl (by kernel_rfl) (by kernel_rfl) (by kernel_rfl) rfl (fun W hW => exec_load rfl rfl (run_load1 (w := W) Tryz.underlying22 rfl hW.kj)) (by assumption) ?_
        simp only [Act.put, List.setIfInBounds_toArray, List.set_cons_zero, List.set_cons_succ]
        refine take 6 18 (v := .pointer (some ⟨w.heap.size, 5, none⟩)) rfl rfl (by kernel_rfl) (by kernel_rfl) (by kernel_rfl) rfl (fun W hW => exec_fieldAddr rfl rfl (fa_value _ _ (by decide) W)) (by assumption) ?_
        simp only [Act.put, List.setIfInBounds_toArray, List.set_cons_zero, List.set_cons_succ]
        refine take 7 19 (v := .slice (some ⟨g1, o1, none⟩) v.list.length cl) rfl rfl (by kernel_rfl) (by kernel_rfl) (by kernel_rfl) rfl (fun W hW => exec_load rfl rfl (run_load1 (w := W) Tryz.underlying24 rfl (cellOf hW.one.1 rfl))) (by assumption) ?_
        simp only [Act.put, List.setIfInBounds_toArray, List.set_cons_zero, List.set_cons_succ]
        refine take 8 20 (v := .pointer (some ⟨g1, o1, none⟩)) rfl rfl (by kernel_rfl) (by kernel_rfl) (by kernel_rfl) rfl (fun W hW => exec_indexAddr rfl rfl rfl (ia_first _ _ _ _ hpos W)) (by assumption) ?_
        simp only [Act.put, List.setIfInBounds_toArray, List.set_cons_zero, List.set_cons_succ]
        refine take 9 21 (v := .pointer (some ⟨g1, o1, none⟩)) rfl rfl (by kernel_rfl) (by kernel_rfl) (by kernel_rfl) rfl (fun W hW => exec_fieldAddr rfl rfl (fa_first _ _ W)) (by assumption) ?_
        simp only [Act.put, List.setIfInBounds_toArray, List.set_cons_zero, List.set_cons_succ]
        refine take 10 22 (v := .int .i64 k0) rfl rfl (by kernel_rfl) (by kernel_rfl) (by kernel_rfl) rfl (fun W hW => exec_load rfl rfl (run_load1 (w := W) Tryz.underlying22 rfl hW.k0)) (by assumption) ?_
        simp only [Act.put, List.setIfInBounds_toArray, List.set_cons_zero, List.set_cons_succ]
        refine take 11 23 (v := .bool false) rfl rfl (by kernel_rfl) (by kernel_rfl) (by kernel_rfl) rfl (fun W hW => exec_bini rfl rfl rfl (hne W)) (by assumption) ?_
        simp only [Act.put, List.setIfInBounds_toArray, List.set_cons_zero, List.set_cons_succ]
        refine done (by kernel_rfl) ?_ _
        have HT0 := Lib.hid (And.intro HS.out hU.one)
        clear hU hU0 hne HS px0 px5
        go_wp2
        go_roundw
        case rel => exact ⟨j + 1, by omega, by go_num, HT0⟩
        case measure => simp [intOf]; omega
      · have HR := Lib.hid (hbad2 e)
        have hne : ∀ W, (binOp .neq 22 (.int .i64 kj) (.int .i64 k0)).run Tryz.prog W = .ok (.bool true) W := fun W => by simp [go_sem, e]
        clear hstep hbad2 e HJ
        go_wp2
        refine plain_region_draws (fun W => StoU w #[.int .i64 v.kind, .bool v.b, .int .i64 v.n, .string (strB v.text), .slice pk v.keys.length ck, .slice (some ⟨g1, o1, none⟩) v.list.length cl] g1 o1 (o1 + j * 6) kj k0 W) (by kernel_rfl) hU0 (fun hU => ?_)
        refine take 0 12 (v := .pointer (some ⟨w.heap.size, 5, none⟩)) rfl rfl (by kernel_rfl) (by kernel_rfl) (by kernel_rfl) rfl (fun W hW => exec_fieldAddr rfl rfl (fa_value _ _ (by decide) W)) (by assumption) ?_
        simp only [Act.put, List.setIfInBounds_toArray, List.set_cons_zero, List.set_cons_succ]
        refine take 1 13 (v := .slice (some ⟨g1, o1, none⟩) v.list.length cl) rfl rfl (by kernel_rfl) (by kernel_rfl) (by kernel_rfl) rfl (fun W hW => exec_load rfl rfl (run_load1 (w := W) Tryz.underlying24 rfl (cellOf hW.one.1 rfl))) (by assumption) ?_
        simp only [Act.put, List.setIfInBounds_toArray, List.set_cons_zero, List.set_cons_succ]
        refine take 2 14 (v := .int .i64 (j : Int)) rfl rfl (by kernel_rfl) (by kernel_rfl) (by kernel_rfl) rfl (fun W hW => exec_move rfl rfl) (by assumption) ?_
        simp only [Act.put, List.setIfInBounds_toArray, List.set_cons_zero, List.set_cons_succ]
        refine take 3 15 (v := .pointer (some ⟨g1, o1 + j * 6, none⟩)) rfl rfl (by kernel_rfl) (by kernel_rfl) (by kernel_rfl) rfl (fun W hW => exec_indexAddr rfl rfl rfl (ia_vals _ _ _ _ _ hlt W)) (by assumption) ?_
        simp only [Act.put, List.setIfInBounds_toArray, List.set_cons_zero, List.set_cons_succ]
        refine take 4 16 (v := .pointer (some ⟨g1, o1 + j * 6, none⟩)) rfl rfl (by kernel_rfl) (by kernel_rfl) (by kernel_rfl) rfl (fun W hW => exec_fieldAddr rfl rfl (fa_first _ _ W)) (by assumption) ?_
        simp only [Act.put, List.setIfInBounds_toArray, List.set_cons_zero, List.set_cons_succ]
        refine take 5 17 (v := .int .i64 kj) rfl rfl (by kernel_rfl) (by kernel_rfl) (by kernel_rfl) rfl (fun W hW => exec_load rfl rfl (run_load1 (w := W) Tryz.underlying22 rfl hW.kj)) (by assumption) ?_
        simp only [Act.put, List.setIfInBounds_toArray, List.set_cons_zero, List.set_cons_succ]
        refine take 6 18 (v := .pointer (some ⟨w.heap.size, 5, none⟩)) rfl rfl (by kernel_rfl) (by kernel_rfl) (by kernel_rfl) rfl (fun W hW => exec_fieldAddr rfl rfl (fa_value _ _ (by decide) W)) (by assumption) ?_
        simp only [Act.put, List.setIfInBounds_toArray, List.set_cons_zero, List.set_cons_succ]
        refine take 7 19 (v := .slice (some ⟨g1, o1, none⟩) v.list.length cl) rfl rfl (by kernel_rfl) (by kernel_rfl) (by kernel_rfl) rfl (fun W hW => exec_load rfl rfl (run_load1 (w := W) Tryz.underlying24 rfl (cellOf hW.one.1 rfl))) (by assumption) ?_
        simp only [Act.put, List.setIfInBounds_toArray, List.set_cons_zero, List.set_cons_succ]
        refine take 8 20 (v := .pointer (some ⟨g1, o1, none⟩)) rfl rfl (by kernel_rfl) (by kernel_rfl) (by kernel_rfl) rfl (fun W hW => exec_indexAddr rfl rfl rfl (ia_first _ _ _ _ hpos W)) (by assumption) ?_
        simp only [Act.put, List.setIfInBounds_toArray, List.set_cons_zero, List.set_cons_succ]
        refine take 9 21 (v := .pointer (some ⟨g1, o1, none⟩)) rfl rfl (by kernel_rfl) (by kernel_rfl) (by kernel_rfl) rfl (fun W hW => exec_fieldAddr rfl rfl (fa_first _ _ W)) (by assumption) ?_
        simp only [Act.put, List.setIfInBounds_toArray, List.set_cons_zero, List.set_cons_succ]
        refine take 10 22 (v := .int .i64 k0) rfl rfl (by kernel_rfl) (by kernel_rfl) (by kernel_rfl) rfl (fun W hW => exec_load rfl rfl (run_load1 (w := W) Tryz.underlying22 rfl hW.k0)) (by assumption) ?_
        simp only [Act.put, List.setIfInBounds_toArray, List.set_cons_zero, List.set_cons_succ]
        refine take 11 23 (v := .bool true) rfl rfl (by kernel_rfl) (by kernel_rfl) (by kernel_rfl) rfl (fun W hW => exec_bini rfl rfl rfl (hne W)) (by assumption) ?_
        simp only [Act.put, List.setIfInBounds_toArray, List.set_cons_zero, List.set_cons_succ]
        refine done (by kernel_rfl) ?_ _
        have HF := Lib.hid hU.one.2
        clear hU hU0 hne px0 px5
        go_wp2
        go_ret
        exact ⟨ret_bool HR.out.symm, HF.out⟩
    · obtain rfl : j = v.list.length := by omega
      have HF := Lib.hid hT1.2
      have hE := HE.out HJ.out.1
      by_cases h4 : v.kind = 4
      · rw [if_pos h4] at hE
        have d4 : (v.kind == 4) = true := by simpa using h4
        by_cases hpos : 0 < v.list.length
        · obtain ⟨g2, o2, pk2, ck2, pl2, cl2, rfl, ⟨q0, _⟩, _⟩ := (HL.out.below hT1.2).at hpos
          rw [List.getElem?_eq_getElem hpos] at hE
          simp only at hE
          rw [Nat.zero_mul, Nat.add_zero] at q0
          have d5 : decide ((0 : Int) < (v.list.length : Int)) = true := by rw [decide_eq_true_iff]; omega
          have d6 : decide (0 < v.list.length) = true := by rw [decide_eq_true_iff]; omega
          generalize v.list[0].kind = k0 at *
          have hk := kinds3 k0
          generalize (decide (1 ≤ k0) && decide (k0 ≤ 3)) = B at *
          have HR := Lib.hid hE
          clear hE hT1 h4 HJ HE HB HL
          rcases hk with ⟨k1, hB⟩ | ⟨k1, k2, hB⟩ | ⟨k1, k2, k3, hB⟩ | ⟨k1, k2, k3, hB⟩
          all_goals
            have HB2 := Lib.hid (HR.out.trans hB)
            clear hB HR
            go_wp2
            go_ret
            exact ⟨ret_bool HB2.out.symm, HF.out⟩
        · have hnil : v.list = [] := List.eq_nil_of_length_eq_zero (by omega)
          have d5 : decide ((0 : Int) < (v.list.length : Int)) = false := by rw [decide_eq_false_iff_not]; omega
          have d6 : decide (0 < v.list.length) = false := by rw [decide_eq_false_iff_not]; omega
          have hE2 : R = true := by rw [hE, hnil]; rfl
          have HR := Lib.hid hE2
          clear hE hE2 hT1 h4 HJ HE HB HL hnil
          go_wp2
          go_ret
          exact ⟨ret_bool HR.out.symm, HF.out⟩
      · rw [if_neg h4] at hE
        have d4 : (v.kind == 4) = false := by simpa using h4
        generalize v.kind = k0 at *
        have hk := kinds3 k0
        generalize (decide (1 ≤ k0) && decide (k0 ≤ 3)) = B at *
        have HR := Lib.hid hE
        clear hE hT1 h4 HJ HE HB HL
        rcases hk with ⟨k1, hB⟩ | ⟨k1, k2, hB⟩ | ⟨k1, k2, k3, hB⟩ | ⟨k1, k2, k3, hB⟩
        all_goals
          have HB2 := Lib.hid (HR.out.trans hB)
          clear hB HR
          go_wp2
          go_ret
          exact ⟨ret_bool HB2.out.symm, HF.out⟩
end Go.Proofs.YtnkaegdnjfpliaaGreatDoor

/-! A box, a copy with something to spare, and a copy of that: what the law of checks keeps. -/
namespace Go.Proofs.YtnkaegdnjfpliaaGreatDoor
set_option linter.unusedSimpArgs false
set_option linter.unusedVariables false
open Go.RowKit

theorem run_one (x0 x1 x2 x3 x4 x5 : Value) (W : World) : (Instr.buildSlice 24 1 #[(0, .agg #[x0, x1, x2, x3, x4, x5])]).run Tryz.prog W =
    .ok (.slice (some ⟨W.heap.size, 0, none⟩) 1 1) (W.alloc (.cells #[x0, x1, x2, x3, x4, x5] 26)) := by simp [go_sem]
structure OneD (w : World) (X : Array Value) (a : V) (p : Nat) (P : Nat → Prop) (y : Array Value) (q : Nat) (Q : Nat → Prop) (z : Array Value) (W : World) : Prop where
  c : OneC w X a p P y W
  hq : W.heap[q]? = some (.cells z 26 (0, 0))
  so : VOwn W Q a z
  dis : ∀ b, Q b → p < b ∧ b < q ∧ b < W.heap.size ∧ w.heap.size < b
  pl : ∀ b, P b → b < p
theorem OneD.keep {w W W' : World} {X : Array Value} {a : V} {p : Nat} {P : Nat → Prop} {y : Array Value} {q : Nat} {Q : Nat → Prop} {z : Array Value} (h : OneD w X a p P y q Q z W) (g : Below W.heap.size W W') : OneD w X a p P y q Q z W' :=
  ⟨h.c.keep g, (g.block _ (Array.getElem?_eq_some_iff.1 h.hq).1).trans h.hq, h.so.below g, fun b hb => by have := h.dis b hb; have := g.size; omega, h.pl⟩
/-- The copy's copy is put into its box. -/
theorem OneD.made {w W0 W : World} {X : Array Value} {a : V} {p : Nat} {P : Nat → Prop} {y : Array Value} {x0 x1 x2 x3 x4 x5 : Value} (hC : OneC w X a p P y W0) (hpl : ∀ b, P b → b < p) (hb : Below W0.heap.size W0 W) (so : VOwn W (fun b => W0.heap.size ≤ b) a #[x0, x1, x2, x3, x4, x5]) (o1 : ∀ u ∈ [x0, x1, x2, x3, x4, x5], u.oneCell' = true) :
    ∃ W2, (storeVar 26 ⟨W.heap.size, 0, none⟩ (.agg #[x0, x1, x2, x3, x4, x5])).run Tryz.prog (W.alloc (.cells #[.int .i64 0, .bool false, .int .i64 0, .string ⟨#[]⟩, .slice none 0 0, .slice none 0 0] 26)) = .ok () W2 ∧ OneD w X a p P y W.heap.size (In W0.heap.size W.heap.size) #[x0, x1, x2, x3, x4, x5] W2 := by
  have hC1 := hC.keep hb
  have hp0 := (Array.getElem?_eq_some_iff.1 hC.hm).1
  have hw0 := (Array.getElem?_eq_some_iff.1 hC.one.1).1
  have hz0 := hb.size
  have s0 : VOwn W (In W0.heap.size W.heap.size) a #[x0, x1, x2, x3, x4, x5] := so.imp fun b hb hp => ⟨hp, hb⟩
  have hbn := below_new (w := W) (.cells #[.int .i64 0, .bool false, .int .i64 0, .string ⟨#[]⟩, .slice none 0 0, .slice none 0 0] 26)
  have hp := heap_alloc_new W (.cells #[.int .i64 0, .bool false, .int .i64 0, .string ⟨#[]⟩, .slice none 0 0, .slice none 0 0] 26)
  have hC2 := hC1.keep hbn
  have s1 := s0.below hbn
  have hz : W.heap.size ≤ (W.alloc (.cells #[.int .i64 0, .bool false, .int .i64 0, .string ⟨#[]⟩, .slice none 0 0, .slice none 0 0] 26)).heap.size := hbn.size
  generalize W.alloc (.cells #[.int .i64 0, .bool false, .int .i64 0, .string ⟨#[]⟩, .slice none 0 0, .slice none 0 0] 26) = W1 at *
  have hst := run_storeVar_row (P := Tryz.prog) W1 W.heap.size 26 26 _ #[x0, x1, x2, x3, x4, x5] hp (by kernel_rfl) rfl (by simpa using o1)
  have ho := fun (b : Nat) (h : b ≠ W.heap.size) => setRow_other W1 W.heap.size b #[x0, x1, x2, x3, x4, x5] h
  have hlt := (Array.getElem?_eq_some_iff.1 hp).1
  refine ⟨_, hst, ⟨hC2.one.row (by omega) _, (ho p (by omega)).trans hC2.hm, hC2.sm.keep fun b hb _ => ho b (by have := hpl b hb; omega)⟩, setRow_heap W1 _ _ _ _ _ hp, s1.keep fun b hb _ => ho b (by have := hb.2; omega), fun b hb => ?_, hpl⟩
  have h1 := hb.1
  have h2 := hb.2
  have h3 : (W1.setRow W.heap.size #[x0, x1, x2, x3, x4, x5]).heap.size = W1.heap.size := by simp
  omega
section
variable {w W : World} {X : Array Value} {a : V} {p : Nat} {P : Nat → Prop} {y : Array Value} {q : Nat} {Q : Nat → Prop} {z : Array Value}
theorem OneC.sizeP (h : OneC w X a p P y W) (hE : Env w) (ht : totV a ≤ 1000000) {n d : Nat} (hs : sizeF a = (n, d)) : Calls Tryz.prog 50 #[.agg y] W fun e w' => e = .returned (.tuple #[.int .i64 (n : Int), .int .i64 (d : Int)]) ∧ OneC w X a p P y w' :=
  (sizePub_any (hE.b h.one.2) (h.rm ht) (by omega)).mono fun _ _ h' => by rw [hs] at h'; exact ⟨h'.1, h.keep h'.2⟩
theorem OneD.sizeR (h : OneD w X a p P y q Q z W) (hv : VRd w a X) (ht : totV a ≤ 1000000) : Calls Tryz.prog 52 #[.agg X] W fun e w' => e = .returned (.tuple #[.int .i64 (countV a : Int), .int .i64 (deepV a : Int), .int .i64 (bytesV a : Int), .int .i64 (longV a : Int)]) ∧ OneD w X a p P y q Q z w' :=
  (sizeR_any a W X (by omega) (hv.below h.c.one.2)).mono fun _ _ h' => ⟨h'.1, h.keep h'.2⟩
theorem OneD.check (h : OneD w X a p P y q Q z W) (hE : Env w) (ht : totV a ≤ 1000000) {c : Int} (hc : checkV Lib.validD a = c) : Calls Tryz.prog 45 #[.agg y] W fun e w' => e = .returned (.int .i64 c) ∧ OneD w X a p P y q Q z w' :=
  (check_ok (hE.b h.c.one.2) (h.c.rm ht) (by omega)).mono fun _ _ h' => by rw [hc] at h'; exact ⟨h'.1, h.keep h'.2⟩
theorem OneD.checkR (h : OneD w X a p P y q Q z W) (hv : VRd w a X) (ht : totV a ≤ 1000000) {c : Int} (hc : checkV Lib.validD a = c) : Calls Tryz.prog 28 #[.agg X] W fun e w' => e = .returned (.int .i64 c) ∧ OneD w X a p P y q Q z w' :=
  (checkR_any (by omega) (hv.below h.c.one.2)).mono fun _ _ h' => by rw [hc] at h'; exact ⟨h'.1, h.keep h'.2⟩
theorem OneD.stor (h : OneD w X a p P y q Q z W) (hE : Env w) (ht : totV a ≤ 1000000) {s : Bool} (hs : (okV a && storB a) = s) : Calls Tryz.prog 53 #[.agg y] W fun e w' => e = .returned (.bool s) ∧ Below W.heap.size W w' :=
  (storable_any (hE.b h.c.one.2) (h.c.rm ht) (by omega)).mono fun _ _ h' => by rw [hs] at h'; exact h'
theorem OneD.storR (h : OneD w X a p P y q Q z W) (hv : VRd w a X) (ho : okV a = true) : Calls Tryz.prog 54 #[.agg X] W fun e w' => e = .returned (.bool (storB a)) ∧ OneD w X a p P y q Q z w' :=
  (storR_any (hv.below h.c.one.2) ho).mono fun _ _ h' => ⟨h'.1, h.keep h'.2⟩
theorem OneD.alike (h : OneD w X a p P y q Q z W) (hv : VRd w a X) (ht : totV a ≤ 1000000) : Calls Tryz.prog 39 #[.agg z, .agg X] W fun e w' => e = .returned (.bool true) ∧ OneD w X a p P y q Q z w' :=
  (alikeR_any a W z X (h.so.rd ht) (hv.below h.c.one.2)).mono fun _ _ h' => ⟨h'.1, h.keep h'.2⟩
theorem OneD.spoil (h : OneD w X a p P y q Q z W) (ht : totV a ≤ 1000000) : Calls Tryz.prog 40 #[.agg z] W fun e w' => e = .returned (.tuple #[]) ∧ OneC w X a p P y w' := by
  obtain ⟨k, b, n, s, vk, vl, rfl, hsh⟩ := h.so.shape
  refine (spoil_any a ht Q W k b n s vk vl hsh (fun q hq => (h.dis q hq).2.2.1)).mono fun e w' ⟨he, hs⟩ => ⟨he, ?_⟩
  exact ⟨⟨hs.touch.heap h.c.one.1 (fun hq => by have := h.dis _ hq; omega), hs.touch.below h.c.one.2 (fun b hb hq => by have := h.dis _ hq; omega) h.c.one.2.size⟩, hs.touch.heap h.c.hm (fun hq => by have := h.dis _ hq; omega), h.c.sm.keep fun b hb hlt => hs.touch.block b hlt (fun hq => by have := h.dis _ hq; have := h.pl _ hb; omega)⟩
/-- The law's fine of the value. -/
theorem fine1_in {w W : World} {x0 x1 x2 x3 x4 x5 : Value} {a : V} (hw : Below w.heap.size w W) {g : Nat} (hg : W.heap[g]? = some (.cells #[x0, x1, x2, x3, x4, x5] 26 (0, 0))) (ha : VRd w a #[x0, x1, x2, x3, x4, x5]) (ht : totV a ≤ 1000000) :
    Calls Tryz.prog 18 #[.slice (some ⟨g, 0, none⟩) 1 1] W fun e w' => e = .returned (.bool (okV a)) ∧ Below W.heap.size W w' := by
  refine (finel_any (LRd.one hg (ha.below hw)) (by simp only [totVs]; omega)).mono ?_
  rintro e w' ⟨rfl, hb'⟩
  exact ⟨ret_bool (by simp [fineL]), hb'⟩
end
end Go.Proofs.YtnkaegdnjfpliaaGreatDoor

/-! The law ValueChecks. Printed by gen_checks.py. -/
namespace Go.Proofs.YtnkaegdnjfpliaaGreatDoor
set_option linter.unusedSimpArgs false
set_option linter.unusedVariables false
open Go.RowKit

theorem alike_bytes {s : Bool} : ∀ W : World, (binOp .neq 4 (.bool s) (.bool s)).run Tryz.prog W = .ok (.bool false) W := fun W => by cases s <;> simp [go_sem]
set_option maxRecDepth 100000 in
set_option maxHeartbeats 8000000 in
theorem checks_law {w : World} {v : V} {x : Array Value} (hE : Env w) (hx : VRd w v x) :
    Calls Tryz.prog 11 #[.agg x] w fun e w' => e = .returned (.bool true) ∧ Below w.heap.size w w' := by
  have hT := OneB.start w x
  obtain ⟨pk, ck, pl, cl, rfl, _⟩ := hx.open
  have hb1 := below_new (w := w.alloc (.cells #[.int .i64 v.kind, .bool v.b, .int .i64 v.n, .string (strB v.text), .slice pk v.keys.length ck, .slice pl v.list.length cl] 26)) (.cells #[.int .i64 v.kind, .bool v.b, .int .i64 v.n, .string (strB v.text), .slice pk v.keys.length ck, .slice pl v.list.length cl] 26)
  have hbb := below_trans hT.2 hb1
  have hh := heap_alloc_new (w.alloc (.cells #[.int .i64 v.kind, .bool v.b, .int .i64 v.n, .string (strB v.text), .slice pk v.keys.length ck, .slice pl v.list.length cl] 26)) (.cells #[.int .i64 v.kind, .bool v.b, .int .i64 v.n, .string (strB v.text), .slice pk v.keys.length ck, .slice pl v.list.length cl] 26)
  simp only [World.size_alloc] at hh
  have HSM := Lib.hid ((small_any (LRd.one hh (hx.below hbb))).mono (R' := fun e w' => e = .returned (.bool (decide (totVs [v] ≤ 2000))) ∧ OneB w w' #[.int .i64 v.kind, .bool v.b, .int .i64 v.n, .string (strB v.text), .slice pk v.keys.length ck, .slice pl v.list.length cl]) fun _ _ h' => ⟨h'.1, (hT.below hb1).below h'.2⟩)
  have HW := Lib.hid (fun (W : World) (h : OneB w W #[.int .i64 v.kind, .bool v.b, .int .i64 v.n, .string (strB v.text), .slice pk v.keys.length ck, .slice pl v.list.length cl]) => (works_any (hE.b h.2)).mono (R' := fun e w' => e = .returned (.bool true) ∧ OneB w w' #[.int .i64 v.kind, .bool v.b, .int .i64 v.n, .string (strB v.text), .slice pk v.keys.length ck, .slice pl v.list.length cl]) fun _ _ h' => ⟨h'.1, h.below h'.2⟩)
  have hts : totVs [v] = totV v := by simp [totVs]
  clear hh hbb hb1
  by_cases hs : totVs [v] ≤ 2000
  · rw [decide_eq_true hs] at HSM
    have ht : totV v ≤ 1000000 := by omega
    have HTT := Lib.hid ht
    have HCP := Lib.hid (fun (W : World) (h : OneB w W #[.int .i64 v.kind, .bool v.b, .int .i64 v.n, .string (strB v.text), .slice pk v.keys.length ck, .slice pl v.list.length cl]) => copied_in (v := v) ht (hx.below h.2))
    have HCO := Lib.hid (fun (W : World) {p : Nat} {P : Nat → Prop} (m : Array Value) (h : OneC w #[.int .i64 v.kind, .bool v.b, .int .i64 v.n, .string (strB v.text), .slice pk v.keys.length ck, .slice pl v.list.length cl] v p P m W) => copy_any v ht W m (h.rm ht))
    have HK1 := Lib.hid (fun (p : Nat) (P : Nat → Prop) (m : Array Value) (W : World) (h : OneC w #[.int .i64 v.kind, .bool v.b, .int .i64 v.n, .string (strB v.text), .slice pk v.keys.length ck, .slice pl v.list.length cl] v p P m W) => h.kept hx ht)
    have HWK := Lib.hid (fun (p : Nat) (P : Nat → Prop) (m : Array Value) (W : World) (h : OneC w #[.int .i64 v.kind, .bool v.b, .int .i64 v.n, .string (strB v.text), .slice pk v.keys.length ck, .slice pl v.list.length cl] v p P m W) => h.works hE)
    have HSR := Lib.hid (fun (p : Nat) (P : Nat → Prop) (m : Array Value) (q : Nat) (Q : Nat → Prop) (z : Array Value) (W : World) (h : OneD w #[.int .i64 v.kind, .bool v.b, .int .i64 v.n, .string (strB v.text), .slice pk v.keys.length ck, .slice pl v.list.length cl] v p P m q Q z W) => h.sizeR hx ht)
    have HCK := Lib.hid (fun (p : Nat) (P : Nat → Prop) (m : Array Value) (q : Nat) (Q : Nat → Prop) (z : Array Value) (W : World) (h : OneD w #[.int .i64 v.kind, .bool v.b, .int .i64 v.n, .string (strB v.text), .slice pk v.keys.length ck, .slice pl v.list.length cl] v p P m q Q z W) => h.check hE ht rfl)
    have HCR := Lib.hid (fun (p : Nat) (P : Nat → Prop) (m : Array Value) (q : Nat) (Q : Nat → Prop) (z : Array Value) (W : World) (h : OneD w #[.int .i64 v.kind, .bool v.b, .int .i64 v.n, .string (strB v.text), .slice pk v.keys.length ck, .slice pl v.list.length cl] v p P m q Q z W) => h.checkR hx ht rfl)
    have HAL := Lib.hid (fun (p : Nat) (P : Nat → Prop) (m : Array Value) (q : Nat) (Q : Nat → Prop) (z : Array Value) (W : World) (h : OneD w #[.int .i64 v.kind, .bool v.b, .int .i64 v.n, .string (strB v.text), .slice pk v.keys.length ck, .slice pl v.list.length cl] v p P m q Q z W) => h.alike hx ht)
    have HSP := Lib.hid (fun (p : Nat) (P : Nat → Prop) (m : Array Value) (q : Nat) (Q : Nat → Prop) (z : Array Value) (W : World) (h : OneD w #[.int .i64 v.kind, .bool v.b, .int .i64 v.n, .string (strB v.text), .slice pk v.keys.length ck, .slice pl v.list.length cl] v p P m q Q z W) => h.spoil ht)
    have HFI := Lib.hid (fun (W : World) (g : Nat) (h : Below w.heap.size w W) (hg : W.heap[g]? = some (.cells #[.int .i64 v.kind, .bool v.b, .int .i64 v.n, .string (strB v.text), .slice pk v.keys.length ck, .slice pl v.list.length cl] 26 (0, 0))) => fine1_in h hg hx ht)
    have eK : ∀ W : World, (binOp .neq 3 (.int .i64 (checkV Lib.validD v)) (.int .i64 (checkV Lib.validD v))).run Tryz.prog W = .ok (.bool false) W := fun W => by simp [go_sem]
    by_cases ok : okV v = true
    · have hsf : sizeF v = (countV v, deepV v) := by unfold sizeF; rw [ok]; rfl
      have HSZ := Lib.hid (fun (p : Nat) (P : Nat → Prop) (m : Array Value) (W : World) (h : OneC w #[.int .i64 v.kind, .bool v.b, .int .i64 v.n, .string (strB v.text), .slice pk v.keys.length ck, .slice pl v.list.length cl] v p P m W) => h.sizeP hE ht hsf)
      have HSB := Lib.hid (fun (p : Nat) (P : Nat → Prop) (m : Array Value) (q : Nat) (Q : Nat → Prop) (z : Array Value) (W : World) (h : OneD w #[.int .i64 v.kind, .bool v.b, .int .i64 v.n, .string (strB v.text), .slice pk v.keys.length ck, .slice pl v.list.length cl] v p P m q Q z W) => h.stor hE ht (s := storB v) (by rw [ok]; rfl))
      have HSS := Lib.hid (fun (p : Nat) (P : Nat → Prop) (m : Array Value) (q : Nat) (Q : Nat → Prop) (z : Array Value) (W : World) (h : OneD w #[.int .i64 v.kind, .bool v.b, .int .i64 v.n, .string (strB v.text), .slice pk v.keys.length ck, .slice pl v.list.length cl] v p P m q Q z W) => h.storR hx ok)
      have eN : ∀ W : World, (binOp .neq 3 (.int .i64 (countV v : Int)) (.int .i64 (countV v : Int))).run Tryz.prog W = .ok (.bool false) W := fun W => by simp [go_sem]
      have eD : ∀ W : World, (binOp .neq 3 (.int .i64 (deepV v : Int)) (.int .i64 (deepV v : Int))).run Tryz.prog W = .ok (.bool false) W := fun W => by simp [go_sem]
      have eS := @alike_bytes (storB v)
      rw [ok] at HFI
      clear hE hx hT hts hs ht ok hsf HW
      generalize checkV Lib.validD v = E at *
      generalize storB v = st at *
      generalize countV v = n at *
      generalize deepV v = d at *
      generalize bytesV v = nb at *
      generalize longV v = nl at *
      go_enter Tryz.func11, Tryz.ntmps11
      go_wp2_with (first
        | (go_at_call 15
           (
            refine HSM.out.mono ?_
            rintro e w1 ⟨rfl, hT1⟩
            have px0 := cellOf (o := 0) hT1.1 rfl; have px1 := cellOf (o := 1) hT1.1 rfl; have px2 := cellOf (o := 2) hT1.1 rfl; have px3 := cellOf (o := 3) hT1.1 rfl; have px4 := cellOf (o := 4) hT1.1 rfl; have px5 := cellOf (o := 5) hT1.1 rfl
            have HT := Lib.hid hT1
            clear hT1 HSM))
        | (go_at_call 17
           (
            refine (HCP.out _ HT.out).mono ?_
            rintro e w2 ⟨u, rfl, hb, y, rfl, hs⟩
            obtain ⟨pk3, ck3, pl3, cl3, rfl, _⟩ := (hs.open HTT.out).open
            obtain ⟨W2, hst, hU, _⟩ := OneC.made (HT.out.below hb) hs
            have HST := Lib.hid hst
            obtain ⟨P, hP, hU⟩ : ∃ P : Nat → Prop, (∀ b, P b → b < w2.heap.size) ∧ OneC w #[.int .i64 v.kind, .bool v.b, .int .i64 v.n, .string (strB v.text), .slice pk v.keys.length ck, .slice pl v.list.length cl] v w2.heap.size P #[.int .i64 v.kind, .bool v.b, .int .i64 v.n, .string (strB v.text), .slice pk3 v.keys.length ck3, .slice pl3 v.list.length cl3] W2 := ⟨_, fun b hb => hb.2, hU⟩
            have HPL := Lib.hid hP
            have HU := Lib.hid hU
            clear hst hU hb hs hP HT px0 px1 px2 px3 px4 px5))
        | (refine wpList_store rfl _ _ _ _ rfl rfl rfl HST.out ?_
           clear HST
           have px0 := cellOf (o := 0) HU.out.one.1 rfl; have px1 := cellOf (o := 1) HU.out.one.1 rfl; have px2 := cellOf (o := 2) HU.out.one.1 rfl; have px3 := cellOf (o := 3) HU.out.one.1 rfl; have px4 := cellOf (o := 4) HU.out.one.1 rfl; have px5 := cellOf (o := 5) HU.out.one.1 rfl; have pm0 := cellOf (o := 0) HU.out.hm rfl; have pm1 := cellOf (o := 1) HU.out.hm rfl; have pm2 := cellOf (o := 2) HU.out.hm rfl; have pm3 := cellOf (o := 3) HU.out.hm rfl; have pm4 := cellOf (o := 4) HU.out.hm rfl; have pm5 := cellOf (o := 5) HU.out.hm rfl)
        | (go_at_call 50
           (
            refine (HSZ.out _ _ _ _ HU.out).mono ?_
            rintro e w3 ⟨rfl, hU⟩
            have HU := Lib.hid hU
            have px0 := cellOf (o := 0) HU.out.one.1 rfl; have px1 := cellOf (o := 1) HU.out.one.1 rfl; have px2 := cellOf (o := 2) HU.out.one.1 rfl; have px3 := cellOf (o := 3) HU.out.one.1 rfl; have px4 := cellOf (o := 4) HU.out.one.1 rfl; have px5 := cellOf (o := 5) HU.out.one.1 rfl
            have pm0 := cellOf (o := 0) HU.out.hm rfl; have pm1 := cellOf (o := 1) HU.out.hm rfl; have pm2 := cellOf (o := 2) HU.out.hm rfl; have pm3 := cellOf (o := 3) HU.out.hm rfl; have pm4 := cellOf (o := 4) HU.out.hm rfl; have pm5 := cellOf (o := 5) HU.out.hm rfl
            clear hU HSZ))
        | (go_at_call 51
           (
            refine (HCO.out _ _ HU.out).mono ?_
            rintro e w4 ⟨y, rfl, hso, hb⟩
            obtain ⟨pk5, ck5, pl5, cl5, rfl, _⟩ := (hso.rd HTT.out).open
            obtain ⟨W4, hst, hU⟩ := OneD.made HU.out HPL.out hb hso (by simp [Value.oneCell'])
            obtain ⟨Q, hU⟩ : ∃ Q, OneD w #[.int .i64 v.kind, .bool v.b, .int .i64 v.n, .string (strB v.text), .slice pk v.keys.length ck, .slice pl v.list.length cl] v w2.heap.size P #[.int .i64 v.kind, .bool v.b, .int .i64 v.n, .string (strB v.text), .slice pk3 v.keys.length ck3, .slice pl3 v.list.length cl3] w4.heap.size Q #[.int .i64 v.kind, .bool v.b, .int .i64 v.n, .string (strB v.text), .slice pk5 v.keys.length ck5, .slice pl5 v.list.length cl5] W4 := ⟨_, hU⟩
            clear HU px0 px1 px2 px3 px4 px5 pm0 pm1 pm2 pm3 pm4 pm5
            have HST2 := Lib.hid hst
            have HU := Lib.hid hU
            clear hst hU hb hso HCO))
        | (refine wpList_store rfl _ _ _ _ rfl rfl rfl HST2.out ?_
           clear HST2
           have px0 := cellOf (o := 0) HU.out.c.one.1 rfl; have px1 := cellOf (o := 1) HU.out.c.one.1 rfl; have px2 := cellOf (o := 2) HU.out.c.one.1 rfl; have px3 := cellOf (o := 3) HU.out.c.one.1 rfl; have px4 := cellOf (o := 4) HU.out.c.one.1 rfl; have px5 := cellOf (o := 5) HU.out.c.one.1 rfl; have pm0 := cellOf (o := 0) HU.out.c.hm rfl; have pm1 := cellOf (o := 1) HU.out.c.hm rfl; have pm2 := cellOf (o := 2) HU.out.c.hm rfl; have pm3 := cellOf (o := 3) HU.out.c.hm rfl; have pm4 := cellOf (o := 4) HU.out.c.hm rfl; have pm5 := cellOf (o := 5) HU.out.c.hm rfl; have pz0 := cellOf (o := 0) HU.out.hq rfl; have pz1 := cellOf (o := 1) HU.out.hq rfl; have pz2 := cellOf (o := 2) HU.out.hq rfl; have pz3 := cellOf (o := 3) HU.out.hq rfl; have pz4 := cellOf (o := 4) HU.out.hq rfl; have pz5 := cellOf (o := 5) HU.out.hq rfl)
        | (go_at_call 52
           (
            refine (HSR.out _ _ _ _ _ _ _ HU.out).mono ?_
            rintro e w6 ⟨rfl, hU⟩
            have HU := Lib.hid hU
            have px0 := cellOf (o := 0) HU.out.c.one.1 rfl; have px1 := cellOf (o := 1) HU.out.c.one.1 rfl; have px2 := cellOf (o := 2) HU.out.c.one.1 rfl; have px3 := cellOf (o := 3) HU.out.c.one.1 rfl; have px4 := cellOf (o := 4) HU.out.c.one.1 rfl; have px5 := cellOf (o := 5) HU.out.c.one.1 rfl
            have pm0 := cellOf (o := 0) HU.out.c.hm rfl; have pm1 := cellOf (o := 1) HU.out.c.hm rfl; have pm2 := cellOf (o := 2) HU.out.c.hm rfl; have pm3 := cellOf (o := 3) HU.out.c.hm rfl; have pm4 := cellOf (o := 4) HU.out.c.hm rfl; have pm5 := cellOf (o := 5) HU.out.c.hm rfl
            have pz0 := cellOf (o := 0) HU.out.hq rfl; have pz1 := cellOf (o := 1) HU.out.hq rfl; have pz2 := cellOf (o := 2) HU.out.hq rfl; have pz3 := cellOf (o := 3) HU.out.hq rfl; have pz4 := cellOf (o := 4) HU.out.hq rfl; have pz5 := cellOf (o := 5) HU.out.hq rfl
            clear hU HSR))
        | (go_at_call 18
           (
            refine (HFI.out _ _ (below_trans HU.out.c.one.2 (below_new _)) (heap_alloc_new _ _)).mono ?_
            rintro e w7 ⟨rfl, hb⟩
            have hU := (HU.out.keep (below_new _)).keep hb
            have HU := Lib.hid hU
            have px0 := cellOf (o := 0) HU.out.c.one.1 rfl; have px1 := cellOf (o := 1) HU.out.c.one.1 rfl; have px2 := cellOf (o := 2) HU.out.c.one.1 rfl; have px3 := cellOf (o := 3) HU.out.c.one.1 rfl; have px4 := cellOf (o := 4) HU.out.c.one.1 rfl; have px5 := cellOf (o := 5) HU.out.c.one.1 rfl
            have pm0 := cellOf (o := 0) HU.out.c.hm rfl; have pm1 := cellOf (o := 1) HU.out.c.hm rfl; have pm2 := cellOf (o := 2) HU.out.c.hm rfl; have pm3 := cellOf (o := 3) HU.out.c.hm rfl; have pm4 := cellOf (o := 4) HU.out.c.hm rfl; have pm5 := cellOf (o := 5) HU.out.c.hm rfl
            have pz0 := cellOf (o := 0) HU.out.hq rfl; have pz1 := cellOf (o := 1) HU.out.hq rfl; have pz2 := cellOf (o := 2) HU.out.hq rfl; have pz3 := cellOf (o := 3) HU.out.hq rfl; have pz4 := cellOf (o := 4) HU.out.hq rfl; have pz5 := cellOf (o := 5) HU.out.hq rfl
            clear hU hb)))
      (try clear px0 px1 px2 px3 px4 px5); (try clear pm0 pm1 pm2 pm3 pm4 pm5); (try clear pz0 pz1 pz2 pz3 pz4 pz5)
      generalize w2.heap.size = p at *
      generalize w4.heap.size = q at *
      have hU : OneD w #[.int .i64 v.kind, .bool v.b, .int .i64 v.n, .string (strB v.text), .slice pk v.keys.length ck, .slice pl v.list.length cl] v p P #[.int .i64 v.kind, .bool v.b, .int .i64 v.n, .string (strB v.text), .slice pk3 v.keys.length ck3, .slice pl3 v.list.length cl3] q Q #[.int .i64 v.kind, .bool v.b, .int .i64 v.n, .string (strB v.text), .slice pk5 v.keys.length ck5, .slice pl5 v.list.length cl5] _ := HU.out.keep (Below.refl _ _).drew
      refine plain_region_draws (fun W => OneD w #[.int .i64 v.kind, .bool v.b, .int .i64 v.n, .string (strB v.text), .slice pk v.keys.length ck, .slice pl v.list.length cl] v p P #[.int .i64 v.kind, .bool v.b, .int .i64 v.n, .string (strB v.text), .slice pk3 v.keys.length ck3, .slice pl3 v.list.length cl3] q Q #[.int .i64 v.kind, .bool v.b, .int .i64 v.n, .string (strB v.text), .slice pk5 v.keys.length ck5, .slice pl5 v.list.length cl5] W) (by kernel_rfl) hU (fun hU => ?_)
      clear HU
      generalize World.drew _ = W5 at *
      refine take 0 36 (v := .agg #[.int .i64 v.kind, .bool v.b, .int .i64 v.n, .string (strB v.text), .slice pk3 v.keys.length ck3, .slice pl3 v.list.length cl3]) rfl rfl (by kernel_rfl) (by kernel_rfl) (by kernel_rfl) rfl (fun W hW => exec_load rfl rfl (get_val hW.c.hm)) (by assumption) ?_
      simp only [Act.put, List.setIfInBounds_toArray, List.set_cons_zero, List.set_cons_succ]
      refine take 3 39 (v := .agg #[.int .i64 v.kind, .bool v.b, .int .i64 v.n, .string (strB v.text), .slice pk v.keys.length ck, .slice pl v.list.length cl]) rfl rfl (by kernel_rfl) (by kernel_rfl) (by kernel_rfl) rfl (fun W hW => exec_load rfl rfl (get_val hW.c.one.1)) (by assumption) ?_
      simp only [Act.put, List.setIfInBounds_toArray, List.set_cons_zero, List.set_cons_succ]
      refine onlyCall 1 37 rfl rfl (by kernel_rfl) rfl (exec_call [.agg #[.int .i64 v.kind, .bool v.b, .int .i64 v.n, .string (strB v.text), .slice pk3 v.keys.length ck3, .slice pl3 v.list.length cl3]] rfl rfl Tryz.func45 (by kernel_rfl) (by kernel_rfl)) ?_
      refine (HCK.out _ _ _ _ _ _ _ hU).mono ?_
      rintro e w5 ⟨rfl, hU⟩
      refine ⟨_, rfl, .inr (by assumption), ?_⟩
      simp only [Act.put, List.setIfInBounds_toArray, List.set_cons_zero, List.set_cons_succ]
      refine onlyCall 2 38 rfl rfl (by kernel_rfl) rfl (exec_call [.int .i64 E] rfl rfl Tryz.func33 (by kernel_rfl) (by kernel_rfl)) ?_
      refine (num_any E _).mono ?_
      rintro e w' ⟨rfl, rfl⟩
      refine ⟨_, rfl, .inr (by assumption), ?_⟩
      simp only [Act.put, List.setIfInBounds_toArray, List.set_cons_zero, List.set_cons_succ]
      refine onlyCall 4 40 rfl rfl (by kernel_rfl) rfl (exec_call [.agg #[.int .i64 v.kind, .bool v.b, .int .i64 v.n, .string (strB v.text), .slice pk v.keys.length ck, .slice pl v.list.length cl]] rfl rfl Tryz.func28 (by kernel_rfl) (by kernel_rfl)) ?_
      refine (HCR.out _ _ _ _ _ _ _ hU).mono ?_
      rintro e w5 ⟨rfl, hU⟩
      refine ⟨_, rfl, .inr (by assumption), ?_⟩
      simp only [Act.put, List.setIfInBounds_toArray, List.set_cons_zero, List.set_cons_succ]
      refine take 5 41 (v := .bool false) rfl rfl (by kernel_rfl) (by kernel_rfl) (by kernel_rfl) rfl (fun W hW => exec_bini rfl rfl rfl (eK W)) (by assumption) ?_
      simp only [Act.put, List.setIfInBounds_toArray, List.set_cons_zero, List.set_cons_succ]
      refine take 6 42 (v := .bool false) rfl rfl (by kernel_rfl) (by kernel_rfl) (by kernel_rfl) rfl (fun W hW => exec_move rfl rfl) (by assumption) ?_
      simp only [Act.put, List.setIfInBounds_toArray, List.set_cons_zero, List.set_cons_succ]
      refine take 7 43 (v := .int .i64 (n : Int)) rfl rfl (by kernel_rfl) (by kernel_rfl) (by kernel_rfl) rfl (fun W hW => exec_move rfl rfl) (by assumption) ?_
      simp only [Act.put, List.setIfInBounds_toArray, List.set_cons_zero, List.set_cons_succ]
      refine take 8 44 (v := .int .i64 (n : Int)) rfl rfl (by kernel_rfl) (by kernel_rfl) (by kernel_rfl) rfl (fun W hW => exec_move rfl rfl) (by assumption) ?_
      simp only [Act.put, List.setIfInBounds_toArray, List.set_cons_zero, List.set_cons_succ]
      refine take 9 45 (v := .bool false) rfl rfl (by kernel_rfl) (by kernel_rfl) (by kernel_rfl) rfl (fun W hW => exec_bini rfl rfl rfl (eN W)) (by assumption) ?_
      simp only [Act.put, List.setIfInBounds_toArray, List.set_cons_zero, List.set_cons_succ]
      refine take 10 46 (v := .bool false) rfl rfl (by kernel_rfl) (by kernel_rfl) (by kernel_rfl) rfl (fun W hW => rfl) (by assumption) ?_
      simp only [Act.put, List.setIfInBounds_toArray, List.set_cons_zero, List.set_cons_succ]
      refine take 11 47 (v := .bool false) rfl rfl (by kernel_rfl) (by kernel_rfl) (by kernel_rfl) rfl (fun W hW => exec_move rfl rfl) (by assumption) ?_
      simp only [Act.put, List.setIfInBounds_toArray, List.set_cons_zero, List.set_cons_succ]
      refine take 12 48 (v := .int .i64 (d : Int)) rfl rfl (by kernel_rfl) (by kernel_rfl) (by kernel_rfl) rfl (fun W hW => exec_move rfl rfl) (by assumption) ?_
      simp only [Act.put, List.setIfInBounds_toArray, List.set_cons_zero, List.set_cons_succ]
      refine take 13 49 (v := .int .i64 (d : Int)) rfl rfl (by kernel_rfl) (by kernel_rfl) (by kernel_rfl) rfl (fun W hW => exec_move rfl rfl) (by assumption) ?_
      simp only [Act.put, List.setIfInBounds_toArray, List.set_cons_zero, List.set_cons_succ]
      refine take 14 50 (v := .bool false) rfl rfl (by kernel_rfl) (by kernel_rfl) (by kernel_rfl) rfl (fun W hW => exec_bini rfl rfl rfl (eD W)) (by assumption) ?_
      simp only [Act.put, List.setIfInBounds_toArray, List.set_cons_zero, List.set_cons_succ]
      refine take 15 51 (v := .bool false) rfl rfl (by kernel_rfl) (by kernel_rfl) (by kernel_rfl) rfl (fun W hW => rfl) (by assumption) ?_
      simp only [Act.put, List.setIfInBounds_toArray, List.set_cons_zero, List.set_cons_succ]
      refine take 16 52 (v := .bool false) rfl rfl (by kernel_rfl) (by kernel_rfl) (by kernel_rfl) rfl (fun W hW => exec_move rfl rfl) (by assumption) ?_
      simp only [Act.put, List.setIfInBounds_toArray, List.set_cons_zero, List.set_cons_succ]
      refine take 17 53 (v := .agg #[.int .i64 v.kind, .bool v.b, .int .i64 v.n, .string (strB v.text), .slice pk3 v.keys.length ck3, .slice pl3 v.list.length cl3]) rfl rfl (by kernel_rfl) (by kernel_rfl) (by kernel_rfl) rfl (fun W hW => exec_load rfl rfl (get_val hW.c.hm)) (by assumption) ?_
      simp only [Act.put, List.setIfInBounds_toArray, List.set_cons_zero, List.set_cons_succ]
      refine take 19 55 (v := .agg #[.int .i64 v.kind, .bool v.b, .int .i64 v.n, .string (strB v.text), .slice pk v.keys.length ck, .slice pl v.list.length cl]) rfl rfl (by kernel_rfl) (by kernel_rfl) (by kernel_rfl) rfl (fun W hW => exec_load rfl rfl (get_val hW.c.one.1)) (by assumption) ?_
      simp only [Act.put, List.setIfInBounds_toArray, List.set_cons_zero, List.set_cons_succ]
      refine any_order [18, 20] (fun i W u lo hi => match i with | 18 => u = .bool st | _ => u = .slice (some ⟨lo, 0, none⟩) 1 1 ∧ lo < hi ∧ W.heap[lo]? = some (.cells #[.int .i64 v.kind, .bool v.b, .int .i64 v.n, .string (strB v.text), .slice pk v.keys.length ck, .slice pl v.list.length cl] 26 (0, 0))) 13 (by kernel_rfl) (by kernel_rfl) rfl (by kernel_rfl) (by kernel_rfl) (Nat.le_of_ble_eq_true (by kernel_rfl)) (fun _ hb => hU.keep hb) ?_ ?_ [54, 56] (by kernel_rfl) ?_
      · intro i hi w w' u lo hi1 hh hb h
        simp only [List.mem_cons, List.not_mem_nil, or_false] at hi
        rcases hi with rfl | rfl
        · exact h
        · obtain ⟨h1, h2, h3⟩ := h
          exact ⟨h1, h2, (hb.block _ (by omega)).trans h3⟩
      · intro i hi a1 w1 vv lo hi1 hs
        have hU1 := hU.keep hs.below
        simp only [List.mem_cons, List.not_mem_nil, or_false] at hi
        rcases hi with rfl | rfl
        · refine opCall 18 54 rfl rfl (wanted_slot rfl rfl (hs.cell 52 (.bool false) (by kernel_rfl) rfl)) (exec_call [.agg #[.int .i64 v.kind, .bool v.b, .int .i64 v.n, .string (strB v.text), .slice pk3 v.keys.length ck3, .slice pl3 v.list.length cl3]] rfl (congrArg (fun z => [z]) (hs.old 53 (.agg #[.int .i64 v.kind, .bool v.b, .int .i64 v.n, .string (strB v.text), .slice pk3 v.keys.length ck3, .slice pl3 v.list.length cl3]) (by kernel_rfl) rfl)) Tryz.func53 (by kernel_rfl) (by kernel_rfl)) ?_
          exact (HSB.out _ _ _ _ _ _ _ hU1).mono fun e w' ⟨h1, h2⟩ => ⟨_, h1, _, rfl, h2, rfl⟩
        · exact opRun 20 56 rfl rfl (wanted_slot rfl rfl (hs.cell 52 (.bool false) (by kernel_rfl) rfl)) (exec_buildSlice1 rfl (hs.old 55 (.agg #[.int .i64 v.kind, .bool v.b, .int .i64 v.n, .string (strB v.text), .slice pk v.keys.length ck, .slice pl v.list.length cl]) (by kernel_rfl) rfl) (run_one _ _ _ _ _ _ _)) ⟨_, rfl, below_new _, rfl, by simp, heap_alloc_new _ _⟩
      intro v1 lo hi1 W4 hb hf _
      have e18 : v1 18 = .bool st := (hf 18 (by simp)).1
      obtain ⟨⟨e20, l20, h20⟩, r20⟩ := hf 20 (by simp)
      have hU0 := hU
      have hU := hU.keep hb
      clear hf
      simp only [List.zip_cons_cons, List.zip_nil_right, List.zip_nil_left, List.foldl_cons, List.foldl_nil, e18, e20, Act.put, List.setIfInBounds_toArray, List.set_cons_zero, List.set_cons_succ]
      clear e18 e20 hU0 hb
      generalize lo 20 = g at *
      refine onlyCall 21 57 rfl rfl (by kernel_rfl) rfl (exec_call [.slice (some ⟨g, 0, none⟩) 1 1] rfl rfl Tryz.func18 (by kernel_rfl) (by kernel_rfl)) ?_
      refine (HFI.out _ _ hU.c.one.2 h20).mono ?_
      rintro e w5 ⟨rfl, hb⟩
      have hU := hU.keep hb
      clear hb
      refine ⟨_, rfl, .inr (by assumption), ?_⟩
      simp only [Act.put, List.setIfInBounds_toArray, List.set_cons_zero, List.set_cons_succ]
      refine take 22 58 (v := .bool true) rfl rfl (by kernel_rfl) (by kernel_rfl) (by kernel_rfl) rfl (fun W hW => exec_move rfl rfl) (by assumption) ?_
      simp only [Act.put, List.setIfInBounds_toArray, List.set_cons_zero, List.set_cons_succ]
      refine take 23 59 (v := .agg #[.int .i64 v.kind, .bool v.b, .int .i64 v.n, .string (strB v.text), .slice pk v.keys.length ck, .slice pl v.list.length cl]) rfl rfl (by kernel_rfl) (by kernel_rfl) (by kernel_rfl) rfl (fun W hW => exec_load rfl rfl (get_val hW.c.one.1)) (by assumption) ?_
      simp only [Act.put, List.setIfInBounds_toArray, List.set_cons_zero, List.set_cons_succ]
      refine onlyCall 24 60 rfl rfl (by kernel_rfl) rfl (exec_call [.agg #[.int .i64 v.kind, .bool v.b, .int .i64 v.n, .string (strB v.text), .slice pk v.keys.length ck, .slice pl v.list.length cl]] rfl rfl Tryz.func54 (by kernel_rfl) (by kernel_rfl)) ?_
      refine (HSS.out _ _ _ _ _ _ _ hU).mono ?_
      rintro e w5 ⟨rfl, hU⟩
      refine ⟨_, rfl, .inr (by assumption), ?_⟩
      simp only [Act.put, List.setIfInBounds_toArray, List.set_cons_zero, List.set_cons_succ]
      refine take 25 61 (v := .bool st) rfl rfl (by kernel_rfl) (by kernel_rfl) (by kernel_rfl) rfl (fun W hW => rfl) (by assumption) ?_
      simp only [Act.put, List.setIfInBounds_toArray, List.set_cons_zero, List.set_cons_succ]
      refine take 26 62 (v := .bool false) rfl rfl (by kernel_rfl) (by kernel_rfl) (by kernel_rfl) rfl (fun W hW => exec_binbb rfl rfl rfl (eS W)) (by assumption) ?_
      simp only [Act.put, List.setIfInBounds_toArray, List.set_cons_zero, List.set_cons_succ]
      refine take 27 63 (v := .bool false) rfl rfl (by kernel_rfl) (by kernel_rfl) (by kernel_rfl) rfl (fun W hW => rfl) (by assumption) ?_
      simp only [Act.put, List.setIfInBounds_toArray, List.set_cons_zero, List.set_cons_succ]
      refine take 28 64 (v := .bool false) rfl rfl (by kernel_rfl) (by kernel_rfl) (by kernel_rfl) rfl (fun W hW => exec_move rfl rfl) (by assumption) ?_
      simp only [Act.put, List.setIfInBounds_toArray, List.set_cons_zero, List.set_cons_succ]
      refine take 29 65 (v := .agg #[.int .i64 v.kind, .bool v.b, .int .i64 v.n, .string (strB v.text), .slice pk5 v.keys.length ck5, .slice pl5 v.list.length cl5]) rfl rfl (by kernel_rfl) (by kernel_rfl) (by kernel_rfl) rfl (fun W hW => exec_load rfl rfl (get_val hW.hq)) (by assumption) ?_
      simp only [Act.put, List.setIfInBounds_toArray, List.set_cons_zero, List.set_cons_succ]
      refine take 30 66 (v := .agg #[.int .i64 v.kind, .bool v.b, .int .i64 v.n, .string (strB v.text), .slice pk v.keys.length ck, .slice pl v.list.length cl]) rfl rfl (by kernel_rfl) (by kernel_rfl) (by kernel_rfl) rfl (fun W hW => exec_load rfl rfl (get_val hW.c.one.1)) (by assumption) ?_
      simp only [Act.put, List.setIfInBounds_toArray, List.set_cons_zero, List.set_cons_succ]
      refine onlyCall 31 67 rfl rfl (by kernel_rfl) rfl (exec_call [.agg #[.int .i64 v.kind, .bool v.b, .int .i64 v.n, .string (strB v.text), .slice pk5 v.keys.length ck5, .slice pl5 v.list.length cl5], .agg #[.int .i64 v.kind, .bool v.b, .int .i64 v.n, .string (strB v.text), .slice pk v.keys.length ck, .slice pl v.list.length cl]] rfl rfl Tryz.func39 (by kernel_rfl) (by kernel_rfl)) ?_
      refine (HAL.out _ _ _ _ _ _ _ hU).mono ?_
      rintro e w5 ⟨rfl, hU⟩
      refine ⟨_, rfl, .inr (by assumption), ?_⟩
      simp only [Act.put, List.setIfInBounds_toArray, List.set_cons_zero, List.set_cons_succ]
      refine take 32 68 (v := .bool false) rfl rfl (by kernel_rfl) (by kernel_rfl) (by kernel_rfl) rfl (fun W hW => exec_unot (b := true) rfl rfl) (by assumption) ?_
      simp only [Act.put, List.setIfInBounds_toArray, List.set_cons_zero, List.set_cons_succ]
      refine take 33 69 (v := .bool false) rfl rfl (by kernel_rfl) (by kernel_rfl) (by kernel_rfl) rfl (fun W hW => rfl) (by assumption) ?_
      simp only [Act.put, List.setIfInBounds_toArray, List.set_cons_zero, List.set_cons_succ]
      refine done (by kernel_rfl) ?_ _
      have HU := Lib.hid hU
      clear hU
      have px0 := cellOf (o := 0) HU.out.c.one.1 rfl; have px1 := cellOf (o := 1) HU.out.c.one.1 rfl; have px2 := cellOf (o := 2) HU.out.c.one.1 rfl; have px3 := cellOf (o := 3) HU.out.c.one.1 rfl; have px4 := cellOf (o := 4) HU.out.c.one.1 rfl; have px5 := cellOf (o := 5) HU.out.c.one.1 rfl
      have pm0 := cellOf (o := 0) HU.out.c.hm rfl; have pm1 := cellOf (o := 1) HU.out.c.hm rfl; have pm2 := cellOf (o := 2) HU.out.c.hm rfl; have pm3 := cellOf (o := 3) HU.out.c.hm rfl; have pm4 := cellOf (o := 4) HU.out.c.hm rfl; have pm5 := cellOf (o := 5) HU.out.c.hm rfl
      have pz0 := cellOf (o := 0) HU.out.hq rfl; have pz1 := cellOf (o := 1) HU.out.hq rfl; have pz2 := cellOf (o := 2) HU.out.hq rfl; have pz3 := cellOf (o := 3) HU.out.hq rfl; have pz4 := cellOf (o := 4) HU.out.hq rfl; have pz5 := cellOf (o := 5) HU.out.hq rfl
      go_wp2_with (first
        | (go_at_call 40
           (
            refine (HSP.out _ _ _ _ _ _ _ HU.out).mono ?_
            rintro e w8 ⟨rfl, hU⟩
            clear HU px0 px1 px2 px3 px4 px5 pm0 pm1 pm2 pm3 pm4 pm5 pz0 pz1 pz2 pz3 pz4 pz5
            have HU := Lib.hid hU
            have px0 := cellOf (o := 0) HU.out.one.1 rfl; have px1 := cellOf (o := 1) HU.out.one.1 rfl; have px2 := cellOf (o := 2) HU.out.one.1 rfl; have px3 := cellOf (o := 3) HU.out.one.1 rfl; have px4 := cellOf (o := 4) HU.out.one.1 rfl; have px5 := cellOf (o := 5) HU.out.one.1 rfl
            have pm0 := cellOf (o := 0) HU.out.hm rfl; have pm1 := cellOf (o := 1) HU.out.hm rfl; have pm2 := cellOf (o := 2) HU.out.hm rfl; have pm3 := cellOf (o := 3) HU.out.hm rfl; have pm4 := cellOf (o := 4) HU.out.hm rfl; have pm5 := cellOf (o := 5) HU.out.hm rfl
            clear hU))
        | (go_at_call 22
           (
            refine (HK1.out _ _ _ _ HU.out).mono ?_
            rintro e w9 ⟨rfl, hU⟩
            have HU := Lib.hid hU
            have px0 := cellOf (o := 0) HU.out.one.1 rfl; have px1 := cellOf (o := 1) HU.out.one.1 rfl; have px2 := cellOf (o := 2) HU.out.one.1 rfl; have px3 := cellOf (o := 3) HU.out.one.1 rfl; have px4 := cellOf (o := 4) HU.out.one.1 rfl; have px5 := cellOf (o := 5) HU.out.one.1 rfl
            have pm0 := cellOf (o := 0) HU.out.hm rfl; have pm1 := cellOf (o := 1) HU.out.hm rfl; have pm2 := cellOf (o := 2) HU.out.hm rfl; have pm3 := cellOf (o := 3) HU.out.hm rfl; have pm4 := cellOf (o := 4) HU.out.hm rfl; have pm5 := cellOf (o := 5) HU.out.hm rfl
            clear hU))
        | (go_at_call 16
           (
            refine (HWK.out _ _ _ _ HU.out).mono ?_
            rintro e w10 ⟨rfl, hU⟩
            have HU := Lib.hid hU
            have px0 := cellOf (o := 0) HU.out.one.1 rfl; have px1 := cellOf (o := 1) HU.out.one.1 rfl; have px2 := cellOf (o := 2) HU.out.one.1 rfl; have px3 := cellOf (o := 3) HU.out.one.1 rfl; have px4 := cellOf (o := 4) HU.out.one.1 rfl; have px5 := cellOf (o := 5) HU.out.one.1 rfl
            have pm0 := cellOf (o := 0) HU.out.hm rfl; have pm1 := cellOf (o := 1) HU.out.hm rfl; have pm2 := cellOf (o := 2) HU.out.hm rfl; have pm3 := cellOf (o := 3) HU.out.hm rfl; have pm4 := cellOf (o := 4) HU.out.hm rfl; have pm5 := cellOf (o := 5) HU.out.hm rfl
            clear hU)))
      go_ret
      exact ⟨rfl, HU.out.one.2⟩
    · have hok : okV v = false := by simpa using ok
      have hsf : sizeF v = (0, 0) := by unfold sizeF; rw [hok]; rfl
      have HSZ := Lib.hid (fun (p : Nat) (P : Nat → Prop) (m : Array Value) (W : World) (h : OneC w #[.int .i64 v.kind, .bool v.b, .int .i64 v.n, .string (strB v.text), .slice pk v.keys.length ck, .slice pl v.list.length cl] v p P m W) => h.sizeP hE ht hsf)
      have HSB := Lib.hid (fun (p : Nat) (P : Nat → Prop) (m : Array Value) (q : Nat) (Q : Nat → Prop) (z : Array Value) (W : World) (h : OneD w #[.int .i64 v.kind, .bool v.b, .int .i64 v.n, .string (strB v.text), .slice pk v.keys.length ck, .slice pl v.list.length cl] v p P m q Q z W) => h.stor hE ht (s := false) (by rw [hok]; rfl))
      have eN : ∀ W : World, (binOp .neq 3 (.int .i64 0) (.int .i64 0)).run Tryz.prog W = .ok (.bool false) W := fun W => by simp [go_sem]
      have eD := eN
      have eS := @alike_bytes false
      rw [hok] at HFI
      clear hE hx hT hts hs ht ok hok hsf HW
      generalize checkV Lib.validD v = E at *
      generalize countV v = n at *
      generalize deepV v = d at *
      generalize bytesV v = nb at *
      generalize longV v = nl at *
      go_enter Tryz.func11, Tryz.ntmps11
      go_wp2_with (first
        | (go_at_call 15
           (
            refine HSM.out.mono ?_
            rintro e w1 ⟨rfl, hT1⟩
            have px0 := cellOf (o := 0) hT1.1 rfl; have px1 := cellOf (o := 1) hT1.1 rfl; have px2 := cellOf (o := 2) hT1.1 rfl; have px3 := cellOf (o := 3) hT1.1 rfl; have px4 := cellOf (o := 4) hT1.1 rfl; have px5 := cellOf (o := 5) hT1.1 rfl
            have HT := Lib.hid hT1
            clear hT1 HSM))
        | (go_at_call 17
           (
            refine (HCP.out _ HT.out).mono ?_
            rintro e w2 ⟨u, rfl, hb, y, rfl, hs⟩
            obtain ⟨pk3, ck3, pl3, cl3, rfl, _⟩ := (hs.open HTT.out).open
            obtain ⟨W2, hst, hU, _⟩ := OneC.made (HT.out.below hb) hs
            have HST := Lib.hid hst
            obtain ⟨P, hP, hU⟩ : ∃ P : Nat → Prop, (∀ b, P b → b < w2.heap.size) ∧ OneC w #[.int .i64 v.kind, .bool v.b, .int .i64 v.n, .string (strB v.text), .slice pk v.keys.length ck, .slice pl v.list.length cl] v w2.heap.size P #[.int .i64 v.kind, .bool v.b, .int .i64 v.n, .string (strB v.text), .slice pk3 v.keys.length ck3, .slice pl3 v.list.length cl3] W2 := ⟨_, fun b hb => hb.2, hU⟩
            have HPL := Lib.hid hP
            have HU := Lib.hid hU
            clear hst hU hb hs hP HT px0 px1 px2 px3 px4 px5))
        | (refine wpList_store rfl _ _ _ _ rfl rfl rfl HST.out ?_
           clear HST
           have px0 := cellOf (o := 0) HU.out.one.1 rfl; have px1 := cellOf (o := 1) HU.out.one.1 rfl; have px2 := cellOf (o := 2) HU.out.one.1 rfl; have px3 := cellOf (o := 3) HU.out.one.1 rfl; have px4 := cellOf (o := 4) HU.out.one.1 rfl; have px5 := cellOf (o := 5) HU.out.one.1 rfl; have pm0 := cellOf (o := 0) HU.out.hm rfl; have pm1 := cellOf (o := 1) HU.out.hm rfl; have pm2 := cellOf (o := 2) HU.out.hm rfl; have pm3 := cellOf (o := 3) HU.out.hm rfl; have pm4 := cellOf (o := 4) HU.out.hm rfl; have pm5 := cellOf (o := 5) HU.out.hm rfl)
        | (go_at_call 50
           (
            refine (HSZ.out _ _ _ _ HU.out).mono ?_
            rintro e w3 ⟨rfl, hU⟩
            have HU := Lib.hid hU
            have px0 := cellOf (o := 0) HU.out.one.1 rfl; have px1 := cellOf (o := 1) HU.out.one.1 rfl; have px2 := cellOf (o := 2) HU.out.one.1 rfl; have px3 := cellOf (o := 3) HU.out.one.1 rfl; have px4 := cellOf (o := 4) HU.out.one.1 rfl; have px5 := cellOf (o := 5) HU.out.one.1 rfl
            have pm0 := cellOf (o := 0) HU.out.hm rfl; have pm1 := cellOf (o := 1) HU.out.hm rfl; have pm2 := cellOf (o := 2) HU.out.hm rfl; have pm3 := cellOf (o := 3) HU.out.hm rfl; have pm4 := cellOf (o := 4) HU.out.hm rfl; have pm5 := cellOf (o := 5) HU.out.hm rfl
            clear hU HSZ))
        | (go_at_call 51
           (
            refine (HCO.out _ _ HU.out).mono ?_
            rintro e w4 ⟨y, rfl, hso, hb⟩
            obtain ⟨pk5, ck5, pl5, cl5, rfl, _⟩ := (hso.rd HTT.out).open
            obtain ⟨W4, hst, hU⟩ := OneD.made HU.out HPL.out hb hso (by simp [Value.oneCell'])
            obtain ⟨Q, hU⟩ : ∃ Q, OneD w #[.int .i64 v.kind, .bool v.b, .int .i64 v.n, .string (strB v.text), .slice pk v.keys.length ck, .slice pl v.list.length cl] v w2.heap.size P #[.int .i64 v.kind, .bool v.b, .int .i64 v.n, .string (strB v.text), .slice pk3 v.keys.length ck3, .slice pl3 v.list.length cl3] w4.heap.size Q #[.int .i64 v.kind, .bool v.b, .int .i64 v.n, .string (strB v.text), .slice pk5 v.keys.length ck5, .slice pl5 v.list.length cl5] W4 := ⟨_, hU⟩
            clear HU px0 px1 px2 px3 px4 px5 pm0 pm1 pm2 pm3 pm4 pm5
            have HST2 := Lib.hid hst
            have HU := Lib.hid hU
            clear hst hU hb hso HCO))
        | (refine wpList_store rfl _ _ _ _ rfl rfl rfl HST2.out ?_
           clear HST2
           have px0 := cellOf (o := 0) HU.out.c.one.1 rfl; have px1 := cellOf (o := 1) HU.out.c.one.1 rfl; have px2 := cellOf (o := 2) HU.out.c.one.1 rfl; have px3 := cellOf (o := 3) HU.out.c.one.1 rfl; have px4 := cellOf (o := 4) HU.out.c.one.1 rfl; have px5 := cellOf (o := 5) HU.out.c.one.1 rfl; have pm0 := cellOf (o := 0) HU.out.c.hm rfl; have pm1 := cellOf (o := 1) HU.out.c.hm rfl; have pm2 := cellOf (o := 2) HU.out.c.hm rfl; have pm3 := cellOf (o := 3) HU.out.c.hm rfl; have pm4 := cellOf (o := 4) HU.out.c.hm rfl; have pm5 := cellOf (o := 5) HU.out.c.hm rfl; have pz0 := cellOf (o := 0) HU.out.hq rfl; have pz1 := cellOf (o := 1) HU.out.hq rfl; have pz2 := cellOf (o := 2) HU.out.hq rfl; have pz3 := cellOf (o := 3) HU.out.hq rfl; have pz4 := cellOf (o := 4) HU.out.hq rfl; have pz5 := cellOf (o := 5) HU.out.hq rfl)
        | (go_at_call 52
           (
            refine (HSR.out _ _ _ _ _ _ _ HU.out).mono ?_
            rintro e w6 ⟨rfl, hU⟩
            have HU := Lib.hid hU
            have px0 := cellOf (o := 0) HU.out.c.one.1 rfl; have px1 := cellOf (o := 1) HU.out.c.one.1 rfl; have px2 := cellOf (o := 2) HU.out.c.one.1 rfl; have px3 := cellOf (o := 3) HU.out.c.one.1 rfl; have px4 := cellOf (o := 4) HU.out.c.one.1 rfl; have px5 := cellOf (o := 5) HU.out.c.one.1 rfl
            have pm0 := cellOf (o := 0) HU.out.c.hm rfl; have pm1 := cellOf (o := 1) HU.out.c.hm rfl; have pm2 := cellOf (o := 2) HU.out.c.hm rfl; have pm3 := cellOf (o := 3) HU.out.c.hm rfl; have pm4 := cellOf (o := 4) HU.out.c.hm rfl; have pm5 := cellOf (o := 5) HU.out.c.hm rfl
            have pz0 := cellOf (o := 0) HU.out.hq rfl; have pz1 := cellOf (o := 1) HU.out.hq rfl; have pz2 := cellOf (o := 2) HU.out.hq rfl; have pz3 := cellOf (o := 3) HU.out.hq rfl; have pz4 := cellOf (o := 4) HU.out.hq rfl; have pz5 := cellOf (o := 5) HU.out.hq rfl
            clear hU HSR))
        | (go_at_call 18
           (
            refine (HFI.out _ _ (below_trans HU.out.c.one.2 (below_new _)) (heap_alloc_new _ _)).mono ?_
            rintro e w7 ⟨rfl, hb⟩
            have hU := (HU.out.keep (below_new _)).keep hb
            have HU := Lib.hid hU
            have px0 := cellOf (o := 0) HU.out.c.one.1 rfl; have px1 := cellOf (o := 1) HU.out.c.one.1 rfl; have px2 := cellOf (o := 2) HU.out.c.one.1 rfl; have px3 := cellOf (o := 3) HU.out.c.one.1 rfl; have px4 := cellOf (o := 4) HU.out.c.one.1 rfl; have px5 := cellOf (o := 5) HU.out.c.one.1 rfl
            have pm0 := cellOf (o := 0) HU.out.c.hm rfl; have pm1 := cellOf (o := 1) HU.out.c.hm rfl; have pm2 := cellOf (o := 2) HU.out.c.hm rfl; have pm3 := cellOf (o := 3) HU.out.c.hm rfl; have pm4 := cellOf (o := 4) HU.out.c.hm rfl; have pm5 := cellOf (o := 5) HU.out.c.hm rfl
            have pz0 := cellOf (o := 0) HU.out.hq rfl; have pz1 := cellOf (o := 1) HU.out.hq rfl; have pz2 := cellOf (o := 2) HU.out.hq rfl; have pz3 := cellOf (o := 3) HU.out.hq rfl; have pz4 := cellOf (o := 4) HU.out.hq rfl; have pz5 := cellOf (o := 5) HU.out.hq rfl
            clear hU hb)))
      (try clear px0 px1 px2 px3 px4 px5); (try clear pm0 pm1 pm2 pm3 pm4 pm5); (try clear pz0 pz1 pz2 pz3 pz4 pz5)
      generalize w2.heap.size = p at *
      generalize w4.heap.size = q at *
      have hU : OneD w #[.int .i64 v.kind, .bool v.b, .int .i64 v.n, .string (strB v.text), .slice pk v.keys.length ck, .slice pl v.list.length cl] v p P #[.int .i64 v.kind, .bool v.b, .int .i64 v.n, .string (strB v.text), .slice pk3 v.keys.length ck3, .slice pl3 v.list.length cl3] q Q #[.int .i64 v.kind, .bool v.b, .int .i64 v.n, .string (strB v.text), .slice pk5 v.keys.length ck5, .slice pl5 v.list.length cl5] _ := HU.out.keep (Below.refl _ _).drew
      refine plain_region_draws (fun W => OneD w #[.int .i64 v.kind, .bool v.b, .int .i64 v.n, .string (strB v.text), .slice pk v.keys.length ck, .slice pl v.list.length cl] v p P #[.int .i64 v.kind, .bool v.b, .int .i64 v.n, .string (strB v.text), .slice pk3 v.keys.length ck3, .slice pl3 v.list.length cl3] q Q #[.int .i64 v.kind, .bool v.b, .int .i64 v.n, .string (strB v.text), .slice pk5 v.keys.length ck5, .slice pl5 v.list.length cl5] W) (by kernel_rfl) hU (fun hU => ?_)
      clear HU
      generalize World.drew _ = W5 at *
      refine take 0 36 (v := .agg #[.int .i64 v.kind, .bool v.b, .int .i64 v.n, .string (strB v.text), .slice pk3 v.keys.length ck3, .slice pl3 v.list.length cl3]) rfl rfl (by kernel_rfl) (by kernel_rfl) (by kernel_rfl) rfl (fun W hW => exec_load rfl rfl (get_val hW.c.hm)) (by assumption) ?_
      simp only [Act.put, List.setIfInBounds_toArray, List.set_cons_zero, List.set_cons_succ]
      refine take 3 39 (v := .agg #[.int .i64 v.kind, .bool v.b, .int .i64 v.n, .string (strB v.text), .slice pk v.keys.length ck, .slice pl v.list.length cl]) rfl rfl (by kernel_rfl) (by kernel_rfl) (by kernel_rfl) rfl (fun W hW => exec_load rfl rfl (get_val hW.c.one.1)) (by assumption) ?_
      simp only [Act.put, List.setIfInBounds_toArray, List.set_cons_zero, List.set_cons_succ]
      refine onlyCall 1 37 rfl rfl (by kernel_rfl) rfl (exec_call [.agg #[.int .i64 v.kind, .bool v.b, .int .i64 v.n, .string (strB v.text), .slice pk3 v.keys.length ck3, .slice pl3 v.list.length cl3]] rfl rfl Tryz.func45 (by kernel_rfl) (by kernel_rfl)) ?_
      refine (HCK.out _ _ _ _ _ _ _ hU).mono ?_
      rintro e w5 ⟨rfl, hU⟩
      refine ⟨_, rfl, .inr (by assumption), ?_⟩
      simp only [Act.put, List.setIfInBounds_toArray, List.set_cons_zero, List.set_cons_succ]
      refine onlyCall 2 38 rfl rfl (by kernel_rfl) rfl (exec_call [.int .i64 E] rfl rfl Tryz.func33 (by kernel_rfl) (by kernel_rfl)) ?_
      refine (num_any E _).mono ?_
      rintro e w' ⟨rfl, rfl⟩
      refine ⟨_, rfl, .inr (by assumption), ?_⟩
      simp only [Act.put, List.setIfInBounds_toArray, List.set_cons_zero, List.set_cons_succ]
      refine onlyCall 4 40 rfl rfl (by kernel_rfl) rfl (exec_call [.agg #[.int .i64 v.kind, .bool v.b, .int .i64 v.n, .string (strB v.text), .slice pk v.keys.length ck, .slice pl v.list.length cl]] rfl rfl Tryz.func28 (by kernel_rfl) (by kernel_rfl)) ?_
      refine (HCR.out _ _ _ _ _ _ _ hU).mono ?_
      rintro e w5 ⟨rfl, hU⟩
      refine ⟨_, rfl, .inr (by assumption), ?_⟩
      simp only [Act.put, List.setIfInBounds_toArray, List.set_cons_zero, List.set_cons_succ]
      refine take 5 41 (v := .bool false) rfl rfl (by kernel_rfl) (by kernel_rfl) (by kernel_rfl) rfl (fun W hW => exec_bini rfl rfl rfl (eK W)) (by assumption) ?_
      simp only [Act.put, List.setIfInBounds_toArray, List.set_cons_zero, List.set_cons_succ]
      refine take 6 42 (v := .bool false) rfl rfl (by kernel_rfl) (by kernel_rfl) (by kernel_rfl) rfl (fun W hW => exec_move rfl rfl) (by assumption) ?_
      simp only [Act.put, List.setIfInBounds_toArray, List.set_cons_zero, List.set_cons_succ]
      refine take 7 43 (v := .int .i64 0) rfl rfl (by kernel_rfl) (by kernel_rfl) (by kernel_rfl) rfl (fun W hW => exec_move rfl rfl) (by assumption) ?_
      simp only [Act.put, List.setIfInBounds_toArray, List.set_cons_zero, List.set_cons_succ]
      refine take 8 44 (v := .int .i64 0) rfl rfl (by kernel_rfl) (by kernel_rfl) (by kernel_rfl) rfl (fun W hW => exec_move rfl rfl) (by assumption) ?_
      simp only [Act.put, List.setIfInBounds_toArray, List.set_cons_zero, List.set_cons_succ]
      refine take 9 45 (v := .bool false) rfl rfl (by kernel_rfl) (by kernel_rfl) (by kernel_rfl) rfl (fun W hW => exec_bini rfl rfl rfl (eN W)) (by assumption) ?_
      simp only [Act.put, List.setIfInBounds_toArray, List.set_cons_zero, List.set_cons_succ]
      refine take 10 46 (v := .bool false) rfl rfl (by kernel_rfl) (by kernel_rfl) (by kernel_rfl) rfl (fun W hW => rfl) (by assumption) ?_
      simp only [Act.put, List.setIfInBounds_toArray, List.set_cons_zero, List.set_cons_succ]
      refine take 11 47 (v := .bool false) rfl rfl (by kernel_rfl) (by kernel_rfl) (by kernel_rfl) rfl (fun W hW => exec_move rfl rfl) (by assumption) ?_
      simp only [Act.put, List.setIfInBounds_toArray, List.set_cons_zero, List.set_cons_succ]
      refine take 12 48 (v := .int .i64 0) rfl rfl (by kernel_rfl) (by kernel_rfl) (by kernel_rfl) rfl (fun W hW => exec_move rfl rfl) (by assumption) ?_
      simp only [Act.put, List.setIfInBounds_toArray, List.set_cons_zero, List.set_cons_succ]
      refine take 13 49 (v := .int .i64 0) rfl rfl (by kernel_rfl) (by kernel_rfl) (by kernel_rfl) rfl (fun W hW => exec_move rfl rfl) (by assumption) ?_
      simp only [Act.put, List.setIfInBounds_toArray, List.set_cons_zero, List.set_cons_succ]
      refine take 14 50 (v := .bool false) rfl rfl (by kernel_rfl) (by kernel_rfl) (by kernel_rfl) rfl (fun W hW => exec_bini rfl rfl rfl (eD W)) (by assumption) ?_
      simp only [Act.put, List.setIfInBounds_toArray, List.set_cons_zero, List.set_cons_succ]
      refine take 15 51 (v := .bool false) rfl rfl (by kernel_rfl) (by kernel_rfl) (by kernel_rfl) rfl (fun W hW => rfl) (by assumption) ?_
      simp only [Act.put, List.setIfInBounds_toArray, List.set_cons_zero, List.set_cons_succ]
      refine take 16 52 (v := .bool false) rfl rfl (by kernel_rfl) (by kernel_rfl) (by kernel_rfl) rfl (fun W hW => exec_move rfl rfl) (by assumption) ?_
      simp only [Act.put, List.setIfInBounds_toArray, List.set_cons_zero, List.set_cons_succ]
      refine take 17 53 (v := .agg #[.int .i64 v.kind, .bool v.b, .int .i64 v.n, .string (strB v.text), .slice pk3 v.keys.length ck3, .slice pl3 v.list.length cl3]) rfl rfl (by kernel_rfl) (by kernel_rfl) (by kernel_rfl) rfl (fun W hW => exec_load rfl rfl (get_val hW.c.hm)) (by assumption) ?_
      simp only [Act.put, List.setIfInBounds_toArray, List.set_cons_zero, List.set_cons_succ]
      refine take 19 55 (v := .agg #[.int .i64 v.kind, .bool v.b, .int .i64 v.n, .string (strB v.text), .slice pk v.keys.length ck, .slice pl v.list.length cl]) rfl rfl (by kernel_rfl) (by kernel_rfl) (by kernel_rfl) rfl (fun W hW => exec_load rfl rfl (get_val hW.c.one.1)) (by assumption) ?_
      simp only [Act.put, List.setIfInBounds_toArray, List.set_cons_zero, List.set_cons_succ]
      refine any_order [18, 20] (fun i W u lo hi => match i with | 18 => u = .bool false | _ => u = .slice (some ⟨lo, 0, none⟩) 1 1 ∧ lo < hi ∧ W.heap[lo]? = some (.cells #[.int .i64 v.kind, .bool v.b, .int .i64 v.n, .string (strB v.text), .slice pk v.keys.length ck, .slice pl v.list.length cl] 26 (0, 0))) 13 (by kernel_rfl) (by kernel_rfl) rfl (by kernel_rfl) (by kernel_rfl) (Nat.le_of_ble_eq_true (by kernel_rfl)) (fun _ hb => hU.keep hb) ?_ ?_ [54, 56] (by kernel_rfl) ?_
      · intro i hi w w' u lo hi1 hh hb h
        simp only [List.mem_cons, List.not_mem_nil, or_false] at hi
        rcases hi with rfl | rfl
        · exact h
        · obtain ⟨h1, h2, h3⟩ := h
          exact ⟨h1, h2, (hb.block _ (by omega)).trans h3⟩
      · intro i hi a1 w1 vv lo hi1 hs
        have hU1 := hU.keep hs.below
        simp only [List.mem_cons, List.not_mem_nil, or_false] at hi
        rcases hi with rfl | rfl
        · refine opCall 18 54 rfl rfl (wanted_slot rfl rfl (hs.cell 52 (.bool false) (by kernel_rfl) rfl)) (exec_call [.agg #[.int .i64 v.kind, .bool v.b, .int .i64 v.n, .string (strB v.text), .slice pk3 v.keys.length ck3, .slice pl3 v.list.length cl3]] rfl (congrArg (fun z => [z]) (hs.old 53 (.agg #[.int .i64 v.kind, .bool v.b, .int .i64 v.n, .string (strB v.text), .slice pk3 v.keys.length ck3, .slice pl3 v.list.length cl3]) (by kernel_rfl) rfl)) Tryz.func53 (by kernel_rfl) (by kernel_rfl)) ?_
          exact (HSB.out _ _ _ _ _ _ _ hU1).mono fun e w' ⟨h1, h2⟩ => ⟨_, h1, _, rfl, h2, rfl⟩
        · exact opRun 20 56 rfl rfl (wanted_slot rfl rfl (hs.cell 52 (.bool false) (by kernel_rfl) rfl)) (exec_buildSlice1 rfl (hs.old 55 (.agg #[.int .i64 v.kind, .bool v.b, .int .i64 v.n, .string (strB v.text), .slice pk v.keys.length ck, .slice pl v.list.length cl]) (by kernel_rfl) rfl) (run_one _ _ _ _ _ _ _)) ⟨_, rfl, below_new _, rfl, by simp, heap_alloc_new _ _⟩
      intro v1 lo hi1 W4 hb hf _
      have e18 : v1 18 = .bool false := (hf 18 (by simp)).1
      obtain ⟨⟨e20, l20, h20⟩, r20⟩ := hf 20 (by simp)
      have hU0 := hU
      have hU := hU.keep hb
      clear hf
      simp only [List.zip_cons_cons, List.zip_nil_right, List.zip_nil_left, List.foldl_cons, List.foldl_nil, e18, e20, Act.put, List.setIfInBounds_toArray, List.set_cons_zero, List.set_cons_succ]
      clear e18 e20 hU0 hb
      generalize lo 20 = g at *
      refine onlyCall 21 57 rfl rfl (by kernel_rfl) rfl (exec_call [.slice (some ⟨g, 0, none⟩) 1 1] rfl rfl Tryz.func18 (by kernel_rfl) (by kernel_rfl)) ?_
      refine (HFI.out _ _ hU.c.one.2 h20).mono ?_
      rintro e w5 ⟨rfl, hb⟩
      have hU := hU.keep hb
      clear hb
      refine ⟨_, rfl, .inr (by assumption), ?_⟩
      simp only [Act.put, List.setIfInBounds_toArray, List.set_cons_zero, List.set_cons_succ]
      refine take 22 58 (v := .bool false) rfl rfl (by kernel_rfl) (by kernel_rfl) (by kernel_rfl) rfl (fun W hW => exec_move rfl rfl) (by assumption) ?_
      simp only [Act.put, List.setIfInBounds_toArray, List.set_cons_zero, List.set_cons_succ]
      refine takeNot 23 59 rfl rfl (by kernel_rfl) (by kernel_rfl) (by kernel_rfl) rfl (by assumption) ?_
      simp only [Act.put, List.setIfInBounds_toArray, List.set_cons_zero, List.set_cons_succ]
      refine takeNot 24 60 rfl rfl (by kernel_rfl) (by kernel_rfl) (by kernel_rfl) rfl (by assumption) ?_
      simp only [Act.put, List.setIfInBounds_toArray, List.set_cons_zero, List.set_cons_succ]
      refine take 25 61 (v := .bool false) rfl rfl (by kernel_rfl) (by kernel_rfl) (by kernel_rfl) rfl (fun W hW => rfl) (by assumption) ?_
      simp only [Act.put, List.setIfInBounds_toArray, List.set_cons_zero, List.set_cons_succ]
      refine take 26 62 (v := .bool false) rfl rfl (by kernel_rfl) (by kernel_rfl) (by kernel_rfl) rfl (fun W hW => exec_binbb rfl rfl rfl (eS W)) (by assumption) ?_
      simp only [Act.put, List.setIfInBounds_toArray, List.set_cons_zero, List.set_cons_succ]
      refine take 27 63 (v := .bool false) rfl rfl (by kernel_rfl) (by kernel_rfl) (by kernel_rfl) rfl (fun W hW => rfl) (by assumption) ?_
      simp only [Act.put, List.setIfInBounds_toArray, List.set_cons_zero, List.set_cons_succ]
      refine take 28 64 (v := .bool false) rfl rfl (by kernel_rfl) (by kernel_rfl) (by kernel_rfl) rfl (fun W hW => exec_move rfl rfl) (by assumption) ?_
      simp only [Act.put, List.setIfInBounds_toArray, List.set_cons_zero, List.set_cons_succ]
      refine take 29 65 (v := .agg #[.int .i64 v.kind, .bool v.b, .int .i64 v.n, .string (strB v.text), .slice pk5 v.keys.length ck5, .slice pl5 v.list.length cl5]) rfl rfl (by kernel_rfl) (by kernel_rfl) (by kernel_rfl) rfl (fun W hW => exec_load rfl rfl (get_val hW.hq)) (by assumption) ?_
      simp only [Act.put, List.setIfInBounds_toArray, List.set_cons_zero, List.set_cons_succ]
      refine take 30 66 (v := .agg #[.int .i64 v.kind, .bool v.b, .int .i64 v.n, .string (strB v.text), .slice pk v.keys.length ck, .slice pl v.list.length cl]) rfl rfl (by kernel_rfl) (by kernel_rfl) (by kernel_rfl) rfl (fun W hW => exec_load rfl rfl (get_val hW.c.one.1)) (by assumption) ?_
      simp only [Act.put, List.setIfInBounds_toArray, List.set_cons_zero, List.set_cons_succ]
      refine onlyCall 31 67 rfl rfl (by kernel_rfl) rfl (exec_call [.agg #[.int .i64 v.kind, .bool v.b, .int .i64 v.n, .string (strB v.text), .slice pk5 v.keys.length ck5, .slice pl5 v.list.length cl5], .agg #[.int .i64 v.kind, .bool v.b, .int .i64 v.n, .string (strB v.text), .slice pk v.keys.length ck, .slice pl v.list.length cl]] rfl rfl Tryz.func39 (by kernel_rfl) (by kernel_rfl)) ?_
      refine (HAL.out _ _ _ _ _ _ _ hU).mono ?_
      rintro e w5 ⟨rfl, hU⟩
      refine ⟨_, rfl, .inr (by assumption), ?_⟩
      simp only [Act.put, List.setIfInBounds_toArray, List.set_cons_zero, List.set_cons_succ]
      refine take 32 68 (v := .bool false) rfl rfl (by kernel_rfl) (by kernel_rfl) (by kernel_rfl) rfl (fun W hW => exec_unot (b := true) rfl rfl) (by assumption) ?_
      simp only [Act.put, List.setIfInBounds_toArray, List.set_cons_zero, List.set_cons_succ]
      refine take 33 69 (v := .bool false) rfl rfl (by kernel_rfl) (by kernel_rfl) (by kernel_rfl) rfl (fun W hW => rfl) (by assumption) ?_
      simp only [Act.put, List.setIfInBounds_toArray, List.set_cons_zero, List.set_cons_succ]
      refine done (by kernel_rfl) ?_ _
      have HU := Lib.hid hU
      clear hU
      have px0 := cellOf (o := 0) HU.out.c.one.1 rfl; have px1 := cellOf (o := 1) HU.out.c.one.1 rfl; have px2 := cellOf (o := 2) HU.out.c.one.1 rfl; have px3 := cellOf (o := 3) HU.out.c.one.1 rfl; have px4 := cellOf (o := 4) HU.out.c.one.1 rfl; have px5 := cellOf (o := 5) HU.out.c.one.1 rfl
      have pm0 := cellOf (o := 0) HU.out.c.hm rfl; have pm1 := cellOf (o := 1) HU.out.c.hm rfl; have pm2 := cellOf (o := 2) HU.out.c.hm rfl; have pm3 := cellOf (o := 3) HU.out.c.hm rfl; have pm4 := cellOf (o := 4) HU.out.c.hm rfl; have pm5 := cellOf (o := 5) HU.out.c.hm rfl
      have pz0 := cellOf (o := 0) HU.out.hq rfl; have pz1 := cellOf (o := 1) HU.out.hq rfl; have pz2 := cellOf (o := 2) HU.out.hq rfl; have pz3 := cellOf (o := 3) HU.out.hq rfl; have pz4 := cellOf (o := 4) HU.out.hq rfl; have pz5 := cellOf (o := 5) HU.out.hq rfl
      go_wp2_with (first
        | (go_at_call 40
           (
            refine (HSP.out _ _ _ _ _ _ _ HU.out).mono ?_
            rintro e w8 ⟨rfl, hU⟩
            clear HU px0 px1 px2 px3 px4 px5 pm0 pm1 pm2 pm3 pm4 pm5 pz0 pz1 pz2 pz3 pz4 pz5
            have HU := Lib.hid hU
            have px0 := cellOf (o := 0) HU.out.one.1 rfl; have px1 := cellOf (o := 1) HU.out.one.1 rfl; have px2 := cellOf (o := 2) HU.out.one.1 rfl; have px3 := cellOf (o := 3) HU.out.one.1 rfl; have px4 := cellOf (o := 4) HU.out.one.1 rfl; have px5 := cellOf (o := 5) HU.out.one.1 rfl
            have pm0 := cellOf (o := 0) HU.out.hm rfl; have pm1 := cellOf (o := 1) HU.out.hm rfl; have pm2 := cellOf (o := 2) HU.out.hm rfl; have pm3 := cellOf (o := 3) HU.out.hm rfl; have pm4 := cellOf (o := 4) HU.out.hm rfl; have pm5 := cellOf (o := 5) HU.out.hm rfl
            clear hU))
        | (go_at_call 22
           (
            refine (HK1.out _ _ _ _ HU.out).mono ?_
            rintro e w9 ⟨rfl, hU⟩
            have HU := Lib.hid hU
            have px0 := cellOf (o := 0) HU.out.one.1 rfl; have px1 := cellOf (o := 1) HU.out.one.1 rfl; have px2 := cellOf (o := 2) HU.out.one.1 rfl; have px3 := cellOf (o := 3) HU.out.one.1 rfl; have px4 := cellOf (o := 4) HU.out.one.1 rfl; have px5 := cellOf (o := 5) HU.out.one.1 rfl
            have pm0 := cellOf (o := 0) HU.out.hm rfl; have pm1 := cellOf (o := 1) HU.out.hm rfl; have pm2 := cellOf (o := 2) HU.out.hm rfl; have pm3 := cellOf (o := 3) HU.out.hm rfl; have pm4 := cellOf (o := 4) HU.out.hm rfl; have pm5 := cellOf (o := 5) HU.out.hm rfl
            clear hU))
        | (go_at_call 16
           (
            refine (HWK.out _ _ _ _ HU.out).mono ?_
            rintro e w10 ⟨rfl, hU⟩
            have HU := Lib.hid hU
            have px0 := cellOf (o := 0) HU.out.one.1 rfl; have px1 := cellOf (o := 1) HU.out.one.1 rfl; have px2 := cellOf (o := 2) HU.out.one.1 rfl; have px3 := cellOf (o := 3) HU.out.one.1 rfl; have px4 := cellOf (o := 4) HU.out.one.1 rfl; have px5 := cellOf (o := 5) HU.out.one.1 rfl
            have pm0 := cellOf (o := 0) HU.out.hm rfl; have pm1 := cellOf (o := 1) HU.out.hm rfl; have pm2 := cellOf (o := 2) HU.out.hm rfl; have pm3 := cellOf (o := 3) HU.out.hm rfl; have pm4 := cellOf (o := 4) HU.out.hm rfl; have pm5 := cellOf (o := 5) HU.out.hm rfl
            clear hU)))
      go_ret
      exact ⟨rfl, HU.out.one.2⟩
  · rw [decide_eq_false hs] at HSM
    clear hE hx hT hts hs
    go_enter Tryz.func11, Tryz.ntmps11
    go_wp2_with (first
      | (go_at_call 15
         (
          refine HSM.out.mono ?_
          rintro e w1 ⟨rfl, hT1⟩
          have px0 := cellOf (o := 0) hT1.1 rfl; have px1 := cellOf (o := 1) hT1.1 rfl; have px2 := cellOf (o := 2) hT1.1 rfl; have px3 := cellOf (o := 3) hT1.1 rfl; have px4 := cellOf (o := 4) hT1.1 rfl; have px5 := cellOf (o := 5) hT1.1 rfl
          have HT := Lib.hid hT1
          clear hT1 HSM))
      | (go_at_call 16; refine (HW.out _ HT.out).mono ?_; rintro e w9 ⟨rfl, hb⟩; have HB := Lib.hid hb; clear hb))
    go_ret
    exact ⟨rfl, HB.out.2⟩
end Go.Proofs.YtnkaegdnjfpliaaGreatDoor

/-! ValueChecks: for every value the law returns true, and the arguments read as they did. The listed tables of Go's library read as the program's text lays them. -/
namespace Go.Proofs.YtnkaegdnjfpliaaGreatDoor
set_option linter.unusedSimpArgs false
set_option linter.unusedVariables false
open Go.ChangeShapes Go.WideShapes Go.ChangeAt Go.RowKit Go.Joins

set_option maxRecDepth 100000 in
theorem valueChecks_lifted (os : Os) (started : os.Started) (H : Type) (enc : TypeId × Value → H) :
    ReturnsInHanded {} Tryz.checked os 11 .any (fun w args => (Rows.valueChecksSpec.pre enc Tryz.prog Tryz.f11 [] false w args ∧ laidMetH Tryz.prog LD w) ∧ sizedMet enc Tryz.prog Tryz.f11 (OpenSpec.ofChange Rows.valueChecksSpec) false w args)
      (Rows.valueChecksSpec.post enc Tryz.prog Tryz.f11 false true false false) := by
  refine returns_tied started (by kernel_rfl) Tryz.func11 #[.agg (flatX 0 false 0 [])] (by kernel_rfl) (by kernel_rfl) (by kernel_rfl) (wit_shape _ _) (wit_laid _ _) ?_
  intro W base args ds gs before hval0 hW hz hE
  have hval : ∀ (j : Nat) t v, Tryz.f11.params[j]? = some t → args[j]? = some v → Value.okWide Tryz.prog W .any base t v := hval0
  have hW' := hW
  obtain ⟨p, q, hA0, hV, rfl, hfz, hnd⟩ := hW
  have hA : DataW.TrodAll enc Tryz.prog W 0 (fun _ => true) true Tryz.f11.params.toList args.toList ds p := hA0
  rw [Tryz.params11] at hA hval
  obtain ⟨v0, vs0, d0, ds0, p0, q0, hargs, rfl, rfl, h0, r0⟩ := trodAll_cons hA
  obtain ⟨rfl, rfl, rfl⟩ := trodAll_nil r0
  obtain ⟨rfl, rfl⟩ := trodVars_none hV
  obtain rfl : args = #[v0] := by cases args; simp_all
  rw [Tryz.params11] at hz
  have z0 := fits_one hz
  obtain ⟨a0, x0, rfl, hx0, hr0⟩ := value_in (hval 0 26 v0 rfl rfl) h0 z0
  clear hA0 hval0
  refine (checks_law hE hx0).mono fun e W' ⟨he, hg⟩ => ?_
  subst he
  exact ⟨_, rfl, law_post laidT (by decide +kernel) Tryz.underlying4 (by kernel_rfl) rfl hW' rfl hg⟩
theorem valueChecks_row : Rows.ValueChecksSaid :=
  OpenClaim.holds_of_wide 11 Tryz.f11 rfl rfl rfl rfl rfl rfl rfl ⟨rfl, rfl, rfl, rfl, rfl⟩ rfl rfl rfl rfl rfl (by kernel_rfl) Tryz.func11 (by kernel_rfl)
    (of_decide_eq_true (by kernel_rfl)) (by unfold Func.isWrapper; first | (rw [if_pos (by decide +kernel)]; kernel_rfl) | (rw [if_neg (by decide +kernel)]; exact ⟨rfl, rfl⟩))
    (fun os started H enc _ => valueChecks_lifted os started H enc)
theorem checks_law_holds : Rows.ValueChecksCardSaid :=
  Claim7.holds_tied_plain_at .later [] [.data, .data, .data, .data, .pinned] true (true, "541050135a4ae63573153b942905868de3e811d8a5bb89e3a2a615778747f658") true
    valueChecks_row (fun _ h => by cases h) (by kernel_rfl) (fun _ h => by cases h) valueChecks_row_tie rfl ⟨rfl, rfl⟩ (by kernel_rfl) rfl
    (fun f fn hf hfn => by
      obtain rfl : f = 11 := Option.some.inj ((show Tryz.prog.funcNamed "lattice/latticelaw01.ValueChecks" = some 11 by kernel_rfl).symm.trans hf) |>.symm
      obtain rfl : fn = Tryz.f11 := (Option.some.inj (Tryz.func11.symm.trans hfn)).symm
      exact ⟨by kernel_rfl, fun j t ht => by
        rw [Tryz.params11] at ht
        have hm : t ∈ [26] := by simpa using Array.mem_of_getElem? ht
        have hall : ([26].all fun u => !Tryz.prog.wantsStandIn u) = true := by kernel_rfl
        exact (show Tryz.prog.wantsStandIn t = false by simpa using List.all_eq_true.1 hall t hm)⟩)
    (by kernel_rfl)
#print axioms checks_law_holds
end Go.Proofs.YtnkaegdnjfpliaaGreatDoor
