/- The book: its smallest functions. -/
import Derived.Test.YtmgajgeoibbmjaaWrite
namespace Go.Proofs.Ytmgajgeoibbmjaa
open Go.RowKit

/-- A slice of bytes in memory of its own. -/
def OwnB (w : World) (v : Value) (l : List UInt8) : Prop := w.ownsRow 0 5 1 v l.length (bcells l)

theorem OwnB.rd {w : World} {v : Value} {l : List UInt8} (h : OwnB w v l) : RdB w v l := by
  rcases h.2 with ⟨rfl, h0⟩ | ⟨g, cap, cur, rfl, _, hg, hnc, hcm, hcs, htake⟩
  · have : l = [] := List.eq_nil_of_length_eq_zero h0
    subst this
    exact ⟨none, 0, rfl, ⟨Nat.le_refl _, by simp [maxLen], fun _ => rfl⟩, fun ad h => by cases h⟩
  · refine ⟨some ⟨g, 0, none⟩, cap, rfl, ⟨hnc, hcm, fun h => by cases h⟩, fun ad had => ?_⟩
    cases had
    refine ⟨fun _ => rfl, fun i b hi => ?_⟩
    have := ownsRow_cell h i (.int .u8 (b.toNat : Int)) (by simp [bcells, hi])
    rw [addr_add] at this; exact this
theorem OwnB.shape {w : World} {v : Value} {l : List UInt8} (h : OwnB w v l) : ∃ a c, v = .slice a l.length c := by
  obtain ⟨a, c, e, _⟩ := h.rd; exact ⟨a, c, e⟩
theorem OwnB.nil (w : World) : OwnB w (.slice none 0 0) [] := World.ownsRow_nil _ _ _ _
theorem OwnB.below {w w' : World} {v : Value} {l : List UInt8} (h : OwnB w v l) (hb : Below w.heap.size w w') : OwnB w' v l := ownsRow_heap h fun g hg => hb.block g (h.lt g hg).2
theorem OwnB.touch {S : Nat → Prop} {w w' : World} {v : Value} {l : List UInt8} (h : OwnB w v l) (g : Touch S w w') (hs : OffF S v) : OwnB w' v l := ownsRow_heap h fun b hb => g.block b (h.lt b hb).2 (hs b hb)
theorem bcells_one (l : List UInt8) : ∀ u ∈ bcells l, u.oneCell' = true := by
  intro u hu; simp only [bcells, List.mem_map] at hu; obtain ⟨b, _, rfl⟩ := hu; rfl
theorem bcells_append (l m : List UInt8) : bcells (l ++ m) = bcells l ++ bcells m := by simp [bcells]

theorem info_u8 : ∃ i, Try.prog.info? 5 = some i ∧ i.zero = some (.int .u8 0) ∧ i.size = 1 ∧ i.bytes = 1 := info_parts (by kernel_rfl)

/-- append of bytes that lie at an address. -/
theorem append_bytes {w : World} {v : Value} {l : List UInt8} (hown : OwnB w v l) (ad : Addr) (c : Nat) (m : List UInt8) (hm : ∀ i b, m[i]? = some b → w.cell? (ad.add i) = some (.int .u8 (b.toNat : Int))) (hlen : l.length + m.length ≤ 140737488355328) (ty : TypeId) :
    ∃ v' w', (Builtin.append_ #[35, 35] ty #[v, .slice (some ad) m.length c]).run Try.prog w = .ok v' w' ∧ OwnB w' v' (l ++ m) ∧ Touch (fun b => v.ownBlock = some b) w w' ∧
      (v'.ownBlock = v.ownBlock ∨ v'.ownBlock = some w.heap.size) ∧ w.heap.size ≤ w'.heap.size := by
  obtain ⟨i0, h1, h2, h3, h4⟩ := info_u8
  obtain ⟨v', w', a1, a2, a3, a4, a5⟩ := append_law (P := Try.prog) (w := w) 35 ty 5 i0 (.int .u8 0) 1 1 Try.underlying35 h1 h2 h3 h4 rfl v l.length (bcells l) hown ad m.length c (bcells m) (by simp [bcells]) (by
    intro j u hu
    simp only [bcells, List.getElem?_map, Option.map_eq_some_iff] at hu
    obtain ⟨b, hb, rfl⟩ := hu
    exact hm j b hb) (bcells_one m) (by unfold maxLen; omega) (by omega)
  exact ⟨v', w', a1, by unfold OwnB; rw [List.length_append, bcells_append]; exact a2, a3, a4, a5⟩
/-- append of a slice of bytes that can be read. -/
theorem append_rd {w : World} {v : Value} {l : List UInt8} (hown : OwnB w v l) (a : Option Addr) (n c : Nat) (m : List UInt8) (hm : RdB w (.slice a n c) m) (hlen : l.length + m.length ≤ 140737488355328) (ty : TypeId) :
    ∃ v' w', (Builtin.append_ #[35, 35] ty #[v, .slice a n c]).run Try.prog w = .ok v' w' ∧ OwnB w' v' (l ++ m) ∧ Touch (fun b => v.ownBlock = some b) w w' ∧
      (v'.ownBlock = v.ownBlock ∨ v'.ownBlock = some w.heap.size) ∧ w.heap.size ≤ w'.heap.size := by
  obtain ⟨a', cap, heq, h1, h2⟩ := hm
  cases heq
  cases a with
  | none =>
    have hc := h1.2.2 rfl
    have hn : m = [] := List.eq_nil_of_length_eq_zero (by omega)
    subst hn; subst hc
    obtain ⟨i0, h1, h2, h3, h4⟩ := info_u8
    refine ⟨v, w, append_law_nil (P := Try.prog) 35 ty 5 i0 1 Try.underlying35 h1 h3 v l.length (bcells l) hown, by rw [List.append_nil]; exact hown, Touch.refl _ _, .inl rfl, Nat.le_refl _⟩
  | some ad =>
    have hcell := RdB.at (w := w) (c := c) ⟨_, _, rfl, h1, h2⟩
    exact append_bytes hown ad c m hcell hlen ty

/-! ### bytes.Clone -/
/-! ### low -/
def lo8 (x : Nat) : Nat := x % 256
def hi8 (x : Nat) : Nat := x / 256
/-- The k lowest bytes of a number. -/
def leB (x k : Nat) : List UInt8 := (List.range k).map fun i => UInt8.ofNat (x / 256 ^ i % 256)
theorem leB_succ (x k : Nat) : leB x (k + 1) = leB x k ++ [UInt8.ofNat (x / 256 ^ k % 256)] := by simp [leB, List.range_succ]
theorem leB_length (x k : Nat) : (leB x k).length = k := by simp [leB]
/-- An int64 as its 64 bits. -/
def u64 (n : Int) : Nat := (n % 18446744073709551616).toNat
theorem u64_lt (n : Int) : u64 n < 18446744073709551616 := by unfold u64; omega
theorem wrap_u64 (n : Int) : IntKind.u64.wrap n = (u64 n : Int) := by simp [IntKind.wrap, IntKind.signed, IntKind.bits, u64]; omega

/-! ### padded -/
def padB (l : List UInt8) : List UInt8 := l ++ List.replicate ((512 - l.length % 512) % 512) 0
theorem padB_length (l : List UInt8) : (padB l).length % 512 = 0 := by
  simp only [padB, List.length_append, List.length_replicate]; omega

end Go.Proofs.Ytmgajgeoibbmjaa
