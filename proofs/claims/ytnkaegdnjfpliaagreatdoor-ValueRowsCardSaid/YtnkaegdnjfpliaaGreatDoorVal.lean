/- Values as lists of bytes and numbers: their order. Plain: nothing of the program is named here. -/
namespace Go.Proofs.YtnkaegdnjfpliaaGreatDoor
set_option linter.unusedSimpArgs false
set_option linter.unusedVariables false

/-- A value: its kind, truth, number, text, keys, list. -/
inductive V where
  | mk (kind : Int) (b : Bool) (n : Int) (text : List UInt8) (keys : List (List UInt8)) (list : List V)
namespace V
def kind : V → Int | mk k _ _ _ _ _ => k
def b : V → Bool | mk _ b _ _ _ _ => b
def n : V → Int | mk _ _ n _ _ _ => n
def text : V → List UInt8 | mk _ _ _ t _ _ => t
def keys : V → List (List UInt8) | mk _ _ _ _ ks _ => ks
def list : V → List V | mk _ _ _ _ _ l => l
/-- What holds of a value if it holds of those in its list. -/
theorem ind {P : V → Prop} (h : ∀ k b n t ks l, (∀ v ∈ l, P v) → P (mk k b n t ks l)) : ∀ v, P v := by
  intro v
  refine V.rec (motive_1 := P) (motive_2 := fun l => ∀ v ∈ l, P v) (fun k b n t ks l ih => h k b n t ks l ih) (fun v hv => by cases hv) (fun v l hv hl u hu => ?_) v
  rcases List.mem_cons.1 hu with rfl | hu
  · exact hv
  · exact hl u hu
end V

/-! ### Orders of numbers, bytes, lists -/
def cmpI (a b : Int) : Int := if a < b then -1 else if b < a then 1 else 0
def cmpL {α : Type} (f : α → α → Int) : List α → List α → Int
  | [], [] => 0
  | [], _ :: _ => -1
  | _ :: _, [] => 1
  | a :: x, b :: y => if f a b ≠ 0 then f a b else cmpL f x y
def cmpB (a b : List UInt8) : Int := cmpL (fun x y : UInt8 => cmpI x.toNat y.toNat) a b
/-- The place of a kind. -/
def rankV (k : Int) : Int := if k = 0 then 7 else if k = 2 then 6 else if k = 1 then 5 else if k = 3 then 4 else if k = 4 then 3 else if k = 7 then 2 else if k = 6 then 1 else 0
def b2i (b : Bool) : Int := if b then 1 else 0
/-- The first that is not nought. -/
def orI (a b : Int) : Int := if a ≠ 0 then a else b

/-- What an order must be at a: it tells -1, 0 or 1, is its opposite turned about, and leads on. -/
structure OrdAt {α : Type} (f : α → α → Int) (a : α) : Prop where
  range : ∀ b, f a b = -1 ∨ f a b = 0 ∨ f a b = 1
  anti : ∀ b, f b a = - f a b
  congr : ∀ b c, f a b = 0 → f a c = f b c
  chain : ∀ b c, f a b = -1 → f b c ≤ 0 → f a c = -1
theorem cmpI_cases (a b : Int) : (a < b ∧ cmpI a b = -1) ∨ (a = b ∧ cmpI a b = 0) ∨ (b < a ∧ cmpI a b = 1) := by
  unfold cmpI
  by_cases h1 : a < b
  · exact .inl ⟨h1, by rw [if_pos h1]⟩
  · by_cases h2 : b < a
    · exact .inr (.inr ⟨h2, by rw [if_neg h1, if_pos h2]⟩)
    · exact .inr (.inl ⟨by omega, by rw [if_neg h1, if_neg h2]⟩)
theorem ord_cmpI (a : Int) : OrdAt cmpI a := by
  refine ⟨fun b => ?_, fun b => ?_, fun b c h => ?_, fun b c h g => ?_⟩
  · rcases cmpI_cases a b with ⟨_, h⟩ | ⟨_, h⟩ | ⟨_, h⟩ <;> simp [h]
  · rcases cmpI_cases a b with ⟨_, h⟩ | ⟨_, h⟩ | ⟨_, h⟩ <;> rcases cmpI_cases b a with ⟨_, g⟩ | ⟨_, g⟩ | ⟨_, g⟩ <;> rw [h, g] <;> omega
  · rcases cmpI_cases a b with ⟨_, e⟩ | ⟨e, _⟩ | ⟨_, e⟩
    · omega
    · rw [e]
    · omega
  · rcases cmpI_cases a b with ⟨h1, e⟩ | ⟨h1, e⟩ | ⟨h1, e⟩ <;> rcases cmpI_cases b c with ⟨h2, e2⟩ | ⟨h2, e2⟩ | ⟨h2, e2⟩ <;> rcases cmpI_cases a c with ⟨h3, e3⟩ | ⟨h3, e3⟩ | ⟨h3, e3⟩ <;> omega
/-- Pulled back along a function. -/
theorem ord_pull {α β : Type} {f : β → β → Int} (g : α → β) {a : α} (h : OrdAt f (g a)) : OrdAt (fun x y => f (g x) (g y)) a :=
  ⟨fun b => h.range _, fun b => h.anti _, fun b c => h.congr _ _, fun b c => h.chain _ _⟩
/-- One behind the other. -/
theorem ord_or {α : Type} {f g : α → α → Int} {a : α} (hf : OrdAt f a) (hg : OrdAt g a) : OrdAt (fun x y => orI (f x y) (g x y)) a := by
  refine ⟨fun b => ?_, fun b => ?_, fun b c h => ?_, fun b c h hc => ?_⟩
  · unfold orI; split
    · exact hf.range b
    · exact hg.range b
  · unfold orI
    rw [hf.anti b, hg.anti b]
    by_cases h : f a b = 0
    · simp [h]
    · have h' : - f a b ≠ 0 := by omega
      rw [if_pos h', if_pos h]
  · unfold orI at h ⊢
    by_cases e : f a b = 0
    · rw [if_neg (by omega)] at h
      rw [hf.congr b c e, hg.congr b c h]
    · rw [if_pos e] at h; omega
  · unfold orI at h hc ⊢
    by_cases e : f a b = 0
    · rw [if_neg (by omega)] at h
      rw [hf.congr b c e]
      by_cases e2 : f b c = 0
      · rw [if_neg (by omega)] at hc
        rw [if_neg (by omega)]
        exact hg.chain b c h hc
      · rw [if_pos e2] at hc
        rw [if_pos e2]
        have := hf.range c
        rw [hf.congr b c e] at this
        omega
    · rw [if_pos e] at h
      have h2 : f b c ≤ 0 := by
        by_cases e2 : f b c = 0
        · omega
        · rw [if_pos e2] at hc; exact hc
      have := hf.chain b c h h2
      rw [if_pos (by omega)]; exact this
/-- Lists, element by element. -/
theorem ord_cmpL {α : Type} {f : α → α → Int} : ∀ (l : List α), (∀ a ∈ l, OrdAt f a) → OrdAt (cmpL f) l := by
  intro l
  induction l with
  | nil =>
    intro _
    refine ⟨fun b => ?_, fun b => ?_, fun b c h => ?_, fun b c h g => ?_⟩
    · cases b <;> simp [cmpL]
    · cases b <;> simp [cmpL]
    · cases b with
      | nil => rfl
      | cons => simp [cmpL] at h
    · cases b with
      | nil => simp [cmpL] at h
      | cons => cases c with
        | nil => simp [cmpL] at g
        | cons => simp [cmpL]
  | cons a x ih =>
    intro hl
    have ha := hl a (by simp)
    have hx := ih fun y hy => hl y (by simp [hy])
    refine ⟨fun b => ?_, fun b => ?_, fun b c h => ?_, fun b c h g => ?_⟩
    · cases b with
      | nil => simp [cmpL]
      | cons b y =>
        unfold cmpL
        split
        · exact ha.range b
        · exact hx.range y
    · cases b with
      | nil => simp [cmpL]
      | cons b y =>
        unfold cmpL
        rw [ha.anti b, hx.anti y]
        by_cases e : f a b = 0
        · simp [e]
        · rw [if_pos (by omega), if_pos e]
    · cases b with
      | nil => simp [cmpL] at h
      | cons b y =>
        unfold cmpL at h
        by_cases e : f a b = 0
        · rw [if_neg (by omega)] at h
          cases c with
          | nil => simp [cmpL]
          | cons c z =>
            unfold cmpL
            rw [ha.congr b c e, hx.congr y z h]
        · rw [if_pos e] at h; omega
    · cases b with
      | nil => simp [cmpL] at h
      | cons b y =>
        cases c with
        | nil => simp [cmpL] at g
        | cons c z =>
          unfold cmpL at h g ⊢
          by_cases e : f a b = 0
          · rw [if_neg (by omega)] at h
            rw [ha.congr b c e]
            by_cases e2 : f b c = 0
            · rw [if_neg (by omega)] at g
              rw [if_neg (by omega)]
              exact hx.chain y z h g
            · rw [if_pos e2] at g
              rw [if_pos e2]
              have := ha.range c
              rw [ha.congr b c e] at this
              omega
          · rw [if_pos e] at h
            have h2 : f b c ≤ 0 := by
              by_cases e2 : f b c = 0
              · omega
              · rw [if_pos e2] at g; exact g
            have := ha.chain b c h h2
            rw [if_pos (by omega)]; exact this

mutual
/-- The order of values. -/
def cmpV : V → V → Int
  | .mk k b n t ks l, v => orI (cmpI (rankV k) (rankV v.kind)) (orI (cmpI (b2i b) (b2i v.b)) (orI (cmpB t v.text) (orI (cmpL cmpB ks v.keys) (orI (cmpVs l v.list) (cmpI n v.n)))))
def cmpVs : List V → List V → Int
  | [], [] => 0
  | [], _ :: _ => -1
  | _ :: _, [] => 1
  | a :: x, b :: y => if cmpV a b ≠ 0 then cmpV a b else cmpVs x y
end
theorem cmpVs_eq : ∀ l m : List V, cmpVs l m = cmpL cmpV l m := by
  intro l
  induction l with
  | nil => intro m; cases m <;> simp [cmpVs, cmpL]
  | cons a x ih => intro m; cases m <;> simp [cmpVs, cmpL, ih]
theorem cmpV_eq (a v : V) : cmpV a v = orI (cmpI (rankV a.kind) (rankV v.kind)) (orI (cmpI (b2i a.b) (b2i v.b)) (orI (cmpB a.text v.text) (orI (cmpL cmpB a.keys v.keys) (orI (cmpL cmpV a.list v.list) (cmpI a.n v.n))))) := by
  cases a; simp [cmpV, cmpVs_eq, V.kind, V.b, V.text, V.keys, V.list, V.n]
theorem ord_cmpB (l : List UInt8) : OrdAt cmpB l := ord_cmpL l fun a _ => ord_pull (f := cmpI) (fun x : UInt8 => (x.toNat : Int)) (ord_cmpI _)
theorem ord_cmpV : ∀ a : V, OrdAt cmpV a := by
  refine V.ind fun k b n t ks l ih => ?_
  have e : cmpV = fun x y => orI (cmpI (rankV x.kind) (rankV y.kind)) (orI (cmpI (b2i x.b) (b2i y.b)) (orI (cmpB x.text y.text) (orI (cmpL cmpB x.keys y.keys) (orI (cmpL cmpV x.list y.list) (cmpI x.n y.n))))) := by
    funext x y; exact cmpV_eq x y
  have h : OrdAt (cmpL cmpV) l := ord_cmpL l ih
  rw [e]
  exact ord_or (ord_pull (fun x : V => rankV x.kind) (ord_cmpI _)) (ord_or (ord_pull (fun x : V => b2i x.b) (ord_cmpI _)) (ord_or (ord_pull V.text (ord_cmpB _)) (ord_or (ord_pull V.keys (ord_cmpL _ fun a _ => ord_cmpB a)) (ord_or (ord_pull V.list h) (ord_pull V.n (ord_cmpI _))))))
/-! What is at one place is the same. -/
theorem cmpI_zero {a b : Int} (h : cmpI a b = 0) : a = b := by rcases cmpI_cases a b with ⟨_, e⟩ | ⟨e, _⟩ | ⟨_, e⟩ <;> omega
theorem orI_zero {a b : Int} (h : orI a b = 0) : a = 0 ∧ b = 0 := by
  unfold orI at h
  by_cases e : a = 0
  · rw [if_neg (by omega)] at h; exact ⟨e, h⟩
  · rw [if_pos e] at h; exact absurd h e
theorem cmpL_zero {α : Type} {f : α → α → Int} : ∀ {l m : List α}, (∀ a ∈ l, ∀ b, f a b = 0 → a = b) → cmpL f l m = 0 → l = m
  | [], [], _, _ => rfl
  | [], _ :: _, _, h => by simp [cmpL] at h
  | _ :: _, [], _, h => by simp [cmpL] at h
  | a :: x, b :: y, hz, h => by
    unfold cmpL at h
    by_cases e : f a b = 0
    · rw [if_neg (by omega)] at h
      rw [hz a (by simp) b e, cmpL_zero (fun a ha => hz a (by simp [ha])) h]
    · rw [if_pos e] at h; exact absurd h e
theorem cmpB_zero {l m : List UInt8} (h : cmpB l m = 0) : l = m := cmpL_zero (fun a _ b e => by have := cmpI_zero e; exact UInt8.toNat_inj.1 (by omega)) h
theorem b2i_inj {a b : Bool} (h : b2i a = b2i b) : a = b := by cases a <;> cases b <;> simp [b2i] at h ⊢
theorem cmpL_self {α : Type} {f : α → α → Int} (l : List α) (h : ∀ a ∈ l, f a a = 0) : cmpL f l l = 0 := by
  induction l with
  | nil => rfl
  | cons a x ih =>
    unfold cmpL
    rw [if_neg (by rw [h a (by simp)]; simp)]
    exact ih fun b hb => h b (by simp [hb])
theorem OrdAt.self {α : Type} {f : α → α → Int} {a : α} (h : OrdAt f a) : f a a = 0 := by have := h.anti a; omega

/-! ### Which values may be -/
/-- Is the byte at a place one of 80 to BF? -/
def moreB (l : List UInt8) (i : Nat) : Bool := match l[i]? with
  | some x => decide (128 ≤ x.toNat) && decide (x.toNat ≤ 191)
  | none => false
def byteN (l : List UInt8) (i : Nat) : Nat := match l[i]? with
  | some x => x.toNat
  | none => 0
/-- How many bytes the rune at a place has; nought: there is none. -/
def runeL (l : List UInt8) (i : Nat) : Nat :=
  if byteN l i < 128 then 1
  else if (decide (194 ≤ byteN l i) && decide (byteN l i ≤ 223) && moreB l (i + 1)) = true then 2
  else if (decide (224 ≤ byteN l i) && decide (byteN l i ≤ 239) && moreB l (i + 1) && moreB l (i + 2)) = true then
    (if ((byteN l i == 224 && decide (byteN l (i + 1) < 160)) || (byteN l i == 237 && decide (159 < byteN l (i + 1)))) = true then 0 else 3)
  else if (decide (240 ≤ byteN l i) && decide (byteN l i ≤ 244) && moreB l (i + 1) && moreB l (i + 2) && moreB l (i + 3)) = true then
    (if ((byteN l i == 240 && decide (byteN l (i + 1) < 144)) || (byteN l i == 244 && decide (143 < byteN l (i + 1)))) = true then 0 else 4)
  else 0
def ltB (a b : List UInt8) : Bool := cmpB a b == -1
/-- Keys rise. -/
def risesB : List (List UInt8) → Bool
  | [] => true
  | [_] => true
  | a :: b :: r => ltB a b && risesB (b :: r)
/-- What a value's kind does not use is nought. -/
def bareV (v : V) : Bool :=
  (v.kind == 1 || !v.b) && (v.kind == 2 || v.kind == 6 || v.kind == 7 || v.n == 0) && (v.kind == 3 || v.text.isEmpty) && (v.kind == 5 || v.keys.isEmpty) && (v.kind == 4 || v.kind == 5 || v.list.isEmpty)
/-- May a value alone be, where `u` tells which texts may be? -/
def oneV (u : List UInt8 → Bool) (v : V) : Bool :=
  decide (0 ≤ v.kind) && decide (v.kind ≤ 7) && bareV v && (!(v.kind == 6 || v.kind == 7) || decide (0 ≤ v.n)) && u v.text && (!(v.kind == 5) || v.keys.length == v.list.length) && v.keys.all u && risesB v.keys
mutual
def mayV (u : List UInt8 → Bool) : V → Bool
  | .mk k b n t ks l => oneV u (.mk k b n t ks l) && mayVs u l
def mayVs (u : List UInt8 → Bool) : List V → Bool
  | [] => true
  | a :: x => mayV u a && mayVs u x
end
theorem mayVs_iff {u : List UInt8 → Bool} : ∀ {l : List V}, mayVs u l = true ↔ ∀ v ∈ l, mayV u v = true := by
  intro l
  induction l with
  | nil => simp [mayVs]
  | cons a x ih => simp [mayVs, ih]
theorem mayV_iff {u : List UInt8 → Bool} {v : V} : mayV u v = true ↔ oneV u v = true ∧ ∀ x ∈ v.list, mayV u x = true := by
  cases v with
  | mk k b n t ks l => rw [mayV, Bool.and_eq_true, mayVs_iff]; rfl
/-! How great values are: how many, how deep, how many bytes, the longest list. -/
mutual
def countV : V → Nat
  | .mk _ _ _ _ _ l => 1 + countVs l
def countVs : List V → Nat
  | [] => 0
  | a :: x => countV a + countVs x
end
mutual
def deepV : V → Nat
  | .mk _ _ _ _ _ l => deepVs l + 1
def deepVs : List V → Nat
  | [] => 0
  | a :: x => max (deepV a) (deepVs x)
end
mutual
def bytesV : V → Nat
  | .mk _ _ _ t ks l => t.length + (ks.map List.length).sum + bytesVs l
def bytesVs : List V → Nat
  | [] => 0
  | a :: x => bytesV a + bytesVs x
end
mutual
def longV : V → Nat
  | .mk _ _ _ _ _ l => max l.length (longVs l)
def longVs : List V → Nat
  | [] => 0
  | a :: x => max (longV a) (longVs x)
end
/-- What is told of a value: may it be? -/
def checkV (u : List UInt8 → Bool) (v : V) : Int := if mayV u v then (if 64 < deepV v || 1048576 < bytesV v || 65536 < longV v then 3 else 0) else 110
/-! ### Equal: 0 false, 1 nothing, 2 true -/
mutual
def eqV : V → V → Int
  | .mk k b n t ks l, v =>
    if k = 0 ∨ v.kind = 0 then 1
    else if k ≠ v.kind then 0
    else if k ≠ 4 ∧ k ≠ 5 then (if cmpV (.mk k b n t ks l) v = 0 then 2 else 0)
    else if l.length ≠ v.list.length ∨ ks ≠ v.keys then 0
    else eqVs l v.list
def eqVs : List V → List V → Int
  | a :: x, b :: y => if eqV a b = 0 ∨ eqVs x y = 0 then 0 else if eqV a b = 1 ∨ eqVs x y = 1 then 1 else 2
  | _, _ => 2
end
/-! ### What may be -/
structure OneF (u : List UInt8 → Bool) (v : V) : Prop where
  lo : 0 ≤ v.kind
  hi : v.kind ≤ 7
  b : v.kind ≠ 1 → v.b = false
  n : v.kind ≠ 2 → v.kind ≠ 6 → v.kind ≠ 7 → v.n = 0
  text : v.kind ≠ 3 → v.text = []
  keys : v.kind ≠ 5 → v.keys = []
  list : v.kind ≠ 4 → v.kind ≠ 5 → v.list = []
  pos : v.kind = 6 ∨ v.kind = 7 → 0 ≤ v.n
  utf : u v.text = true
  len : v.kind = 5 → v.keys.length = v.list.length
  each : ∀ k ∈ v.keys, u k = true
  rises : risesB v.keys = true
theorem oneV_iff {u : List UInt8 → Bool} {v : V} : oneV u v = true ↔ OneF u v := by
  unfold oneV bareV
  simp only [Bool.and_eq_true, Bool.or_eq_true, beq_iff_eq, decide_eq_true_eq, Bool.not_eq_true', List.isEmpty_iff, List.all_eq_true, Bool.or_eq_false_iff, beq_eq_false_iff_ne]
  constructor
  · rintro ⟨⟨⟨⟨⟨⟨⟨h1, h2⟩, ⟨⟨⟨h3, h4⟩, h5⟩, h6⟩, h7⟩, h8⟩, h9⟩, h10⟩, h11⟩, h12⟩
    exact ⟨h1, h2, fun e => h3.resolve_left e, fun e1 e2 e3 => by rcases h4 with ((h | h) | h) | h <;> first | exact h | exact absurd h ‹_›, fun e => h5.resolve_left e, fun e => h6.resolve_left e, fun e1 e2 => by rcases h7 with (h | h) | h <;> first | exact h | exact absurd h ‹_›, fun e => by rcases h8 with ⟨a, b⟩ | h <;> first | exact h | omega, h9, fun e => h10.resolve_left fun h => h e, h11, h12⟩
  · intro h
    refine ⟨⟨⟨⟨⟨⟨⟨h.lo, h.hi⟩, ⟨⟨⟨?_, ?_⟩, ?_⟩, ?_⟩, ?_⟩, ?_⟩, h.utf⟩, ?_⟩, h.each⟩, h.rises⟩
    · by_cases e : v.kind = 1
      · exact .inl e
      · exact .inr (h.b e)
    · by_cases e : v.kind = 2
      · exact .inl (.inl (.inl e))
      · by_cases e2 : v.kind = 6
        · exact .inl (.inl (.inr e2))
        · by_cases e3 : v.kind = 7
          · exact .inl (.inr e3)
          · exact .inr (h.n e e2 e3)
    · by_cases e : v.kind = 3
      · exact .inl e
      · exact .inr (h.text e)
    · by_cases e : v.kind = 5
      · exact .inl e
      · exact .inr (h.keys e)
    · by_cases e : v.kind = 4
      · exact .inl (.inl e)
      · by_cases e2 : v.kind = 5
        · exact .inl (.inr e2)
        · exact .inr (h.list e e2)
    · by_cases e : v.kind = 6 ∨ v.kind = 7
      · exact .inr (h.pos e)
      · exact .inl ⟨fun x => e (.inl x), fun x => e (.inr x)⟩
    · by_cases e : v.kind = 5
      · exact .inr (h.len e)
      · exact .inl e
theorem rankV_inj {a b : Int} (ha : 0 ≤ a) (ha7 : a ≤ 7) (hb : 0 ≤ b) (hb7 : b ≤ 7) (h : rankV a = rankV b) : a = b := by
  unfold rankV at h
  repeat' split at h
  all_goals omega
theorem cmpI_self (a : Int) : cmpI a a = 0 := by unfold cmpI; simp
theorem orI_zero_left (a : Int) : orI 0 a = a := by unfold orI; simp
theorem orI_zero_right (a : Int) : orI a 0 = a := by unfold orI; split <;> simp_all
theorem cmpB_self (l : List UInt8) : cmpB l l = 0 := (ord_cmpB l).self
theorem cmpV_rank {a b : V} (h : cmpI (rankV a.kind) (rankV b.kind) ≠ 0) : cmpV a b = cmpI (rankV a.kind) (rankV b.kind) := by
  rw [cmpV_eq]; unfold orI; rw [if_pos h]
theorem cmpV_bool {u : List UInt8 → Bool} {a b : V} (ha : OneF u a) (hb : OneF u b) (ka : a.kind = 1) (kb : b.kind = 1) : cmpV a b = cmpI (b2i a.b) (b2i b.b) := by
  rw [cmpV_eq, ka, kb, cmpI_self, orI_zero_left, ha.text (by omega), hb.text (by omega), ha.keys (by omega), hb.keys (by omega), ha.list (by omega) (by omega), hb.list (by omega) (by omega), ha.n (by omega) (by omega) (by omega), hb.n (by omega) (by omega) (by omega)]
  simp [cmpB_self, cmpL, orI_zero_right, cmpI_self]
theorem cmpV_text {u : List UInt8 → Bool} {a b : V} (ha : OneF u a) (hb : OneF u b) (ka : a.kind = 3) (kb : b.kind = 3) : cmpV a b = cmpB a.text b.text := by
  rw [cmpV_eq, ka, kb, cmpI_self, orI_zero_left, ha.b (by omega), hb.b (by omega), ha.keys (by omega), hb.keys (by omega), ha.list (by omega) (by omega), hb.list (by omega) (by omega), ha.n (by omega) (by omega) (by omega), hb.n (by omega) (by omega) (by omega)]
  simp [cmpL, orI_zero_right, cmpI_self, orI_zero_left]
theorem cmpV_rest {u : List UInt8 → Bool} {a b : V} (ha : OneF u a) (hb : OneF u b) (k : a.kind = b.kind) (k1 : a.kind ≠ 1) (k3 : a.kind ≠ 3) : cmpV a b = orI (cmpL cmpB a.keys b.keys) (orI (cmpL cmpV a.list b.list) (cmpI a.n b.n)) := by
  rw [cmpV_eq, k, cmpI_self, orI_zero_left, ha.b k1, hb.b (by omega), ha.text k3, hb.text (by omega), cmpI_self, orI_zero_left, cmpB_self, orI_zero_left]
/-- Two values that may be and stand at one place are the same. -/
theorem cmpV_zero {u : List UInt8 → Bool} : ∀ a : V, mayV u a = true → ∀ b : V, mayV u b = true → cmpV a b = 0 → a = b := by
  refine V.ind fun k b n t ks l ih => ?_
  intro ha v hb h
  obtain ⟨h1, h2⟩ := mayV_iff.1 ha
  obtain ⟨g1, g2⟩ := mayV_iff.1 hb
  have f1 := oneV_iff.1 h1
  have f2 := oneV_iff.1 g1
  rw [cmpV_eq] at h
  obtain ⟨e1, h⟩ := orI_zero h
  obtain ⟨e2, h⟩ := orI_zero h
  obtain ⟨e3, h⟩ := orI_zero h
  obtain ⟨e4, h⟩ := orI_zero h
  obtain ⟨e5, e6⟩ := orI_zero h
  cases v with
  | mk k' b' n' t' ks' l' =>
    simp only [V.kind, V.b, V.n, V.text, V.keys, V.list] at *
    obtain rfl : k = k' := rankV_inj f1.lo f1.hi f2.lo f2.hi (cmpI_zero e1)
    obtain rfl := b2i_inj (cmpI_zero e2)
    obtain rfl := cmpB_zero e3
    obtain rfl := cmpL_zero (fun a _ b e => cmpB_zero e) e4
    obtain rfl := cmpI_zero e6
    have hl : ∀ (x y : List V), (∀ v ∈ x, v ∈ l) → (∀ v ∈ y, mayV u v = true) → cmpL cmpV x y = 0 → x = y := by
      intro x
      induction x with
      | nil => intro y _ _ h; cases y with
        | nil => rfl
        | cons => simp [cmpL] at h
      | cons a x ihx =>
        intro y hx hy h
        cases y with
        | nil => simp [cmpL] at h
        | cons c y =>
          unfold cmpL at h
          by_cases e : cmpV a c = 0
          · rw [if_neg (by omega)] at h
            rw [ih a (hx a (by simp)) (h2 a (hx a (by simp))) c (hy c (by simp)) e, ihx y (fun v hv => hx v (by simp [hv])) (fun v hv => hy v (by simp [hv])) h]
          · rw [if_pos e] at h; exact absurd h e
    rw [hl l l' (fun _ h => h) g2 e5]
mutual
/-- How many values, keys and bytes there are. -/
def totV : V → Nat
  | .mk _ _ _ t ks l => 1 + t.length + ks.length + (ks.map List.length).sum + totVs l
def totVs : List V → Nat
  | [] => 0
  | a :: x => totV a + totVs x
end
theorem totV_mk (k : Int) (b : Bool) (n : Int) (t : List UInt8) (ks : List (List UInt8)) (l : List V) : totV (.mk k b n t ks l) = 1 + t.length + ks.length + (ks.map List.length).sum + totVs l := by rw [totV]
theorem totV_eq (v : V) : totV v = 1 + v.text.length + v.keys.length + (v.keys.map List.length).sum + totVs v.list := by cases v; rw [totV]; rfl
theorem totVs_cons (a : V) (x : List V) : totVs (a :: x) = totV a + totVs x := by rw [totVs]
theorem totV_pos (v : V) : 1 ≤ totV v := by rw [totV_eq]; omega
theorem totVs_length : ∀ l : List V, l.length ≤ totVs l := by
  intro l
  induction l with
  | nil => simp
  | cons a x ih => rw [totVs_cons, List.length_cons]; have := totV_pos a; omega
theorem totVs_mem {l : List V} {a : V} (h : a ∈ l) : totV a ≤ totVs l := by
  induction l with
  | nil => simp at h
  | cons b x ih =>
    rw [totVs_cons]
    rcases List.mem_cons.1 h with rfl | h
    · omega
    · have := ih h; omega
theorem totVs_append (l m : List V) : totVs (l ++ m) = totVs l + totVs m := by
  induction l with
  | nil => simp [totVs]
  | cons a x ih => rw [List.cons_append, totVs_cons, totVs_cons, ih]; omega
theorem sum_mem {l : List (List UInt8)} {a : List UInt8} (h : a ∈ l) : a.length ≤ (l.map List.length).sum := by
  induction l with
  | nil => simp at h
  | cons b x ih =>
    simp only [List.map_cons, List.sum_cons]
    rcases List.mem_cons.1 h with rfl | h
    · omega
    · have := ih h; omega
end Go.Proofs.YtnkaegdnjfpliaaGreatDoor
