/-
  Values as trees, in plain terms: their sizes, the order of keys, and what a step does to a row.
-/
import Derived.Sort.Statements
namespace Go.Proofs.YtbajkglacfheiaaGreatDoor
set_option linter.unusedVariables false
namespace Nd
abbrev Tx := List UInt8

inductive Tr where
  | null
  | flag (b : Bool)
  | num (x : Nat)
  | text (t : Tx)
  | list (l : List Tr)
  | obj (ks : List Tx) (l : List Tr)

theorem Tr.ind {P : Tr → Prop} (h0 : P .null) (h1 : ∀ b, P (.flag b)) (h2 : ∀ x, P (.num x)) (h3 : ∀ t, P (.text t)) (h4 : ∀ l, (∀ x, x ∈ l → P x) → P (.list l)) (h5 : ∀ ks l, (∀ x, x ∈ l → P x) → P (.obj ks l)) : ∀ t, P t
  | .null => h0
  | .flag b => h1 b
  | .num x => h2 x
  | .text t => h3 t
  | .list l => h4 l fun x hx => Tr.ind h0 h1 h2 h3 h4 h5 x
  | .obj ks l => h5 ks l fun x hx => Tr.ind h0 h1 h2 h3 h4 h5 x
termination_by t => sizeOf t
decreasing_by
  · have := List.sizeOf_lt_of_mem hx; simp; omega
  · have := List.sizeOf_lt_of_mem hx; simp; omega

def lens : List Tx → Nat
  | [] => 0
  | k :: ks => k.length + lens ks
mutual
def Tr.nodes : Tr → Nat
  | .list l => 1 + nodesL l
  | .obj _ l => 1 + nodesL l
  | _ => 1
def nodesL : List Tr → Nat
  | [] => 0
  | t :: l => t.nodes + nodesL l
end
mutual
def Tr.bytes : Tr → Nat
  | .text t => t.length
  | .list l => bytesL l
  | .obj ks l => lens ks + bytesL l
  | _ => 0
def bytesL : List Tr → Nat
  | [] => 0
  | t :: l => t.bytes + bytesL l
end
mutual
def Tr.depth : Tr → Nat
  | .list l => depthL l + 1
  | .obj _ l => depthL l + 1
  | _ => 1
def depthL : List Tr → Nat
  | [] => 0
  | t :: l => max t.depth (depthL l)
end
/-- within the limits -/
def Tr.fit (t : Tr) : Bool := decide (t.nodes ≤ 65536) && decide (t.bytes ≤ 2097152) && decide (t.depth ≤ 512)

/-- the order of bytes within texts -/
def ord (x : UInt8) : Nat := if 238 ≤ x.toNat ∧ x.toNat < 240 then x.toNat + 256 else x.toNat
def cmpL : Tx → Tx → Int
  | [], [] => 0
  | [], _ :: _ => -1
  | _ :: _, [] => 1
  | x :: a, y :: b => if x = y then cmpL a b else if ord x < ord y then -1 else 1
theorem ord_inj {x y : UInt8} (h : ord x = ord y) : x = y := by
  have hx := x.toNat_lt
  have hy := y.toNat_lt
  unfold ord at h
  apply UInt8.toNat_inj.1
  split at h <;> split at h <;> omega
def ltL (a b : Tx) : Bool := decide (cmpL a b < 0)
theorem cmp_self : ∀ a, cmpL a a = 0
  | [] => rfl
  | x :: a => by simp [cmpL, cmp_self a]
theorem cmp_zero : ∀ a b, cmpL a b = 0 → a = b
  | [], [], _ => rfl
  | [], _ :: _, h => by simp [cmpL] at h
  | _ :: _, [], h => by simp [cmpL] at h
  | x :: a, y :: b, h => by
    unfold cmpL at h
    split at h
    · rename_i e
      rw [e, cmp_zero a b h]
    · split at h <;> cases h
theorem cmp_turn : ∀ a b, cmpL b a = - cmpL a b
  | [], [] => rfl
  | [], _ :: _ => rfl
  | _ :: _, [] => rfl
  | x :: a, y :: b => by
    unfold cmpL
    by_cases e : x = y
    · subst e
      simp [cmp_turn a b]
    · have e' : ¬ y = x := fun h => e h.symm
      have hne : ord x ≠ ord y := fun h => e (ord_inj h)
      rw [if_neg e, if_neg e']
      split <;> split <;> first | rfl | omega
theorem cmp_form : ∀ a b, cmpL a b = -1 ∨ cmpL a b = 0 ∨ cmpL a b = 1
  | [], [] => .inr (.inl rfl)
  | [], _ :: _ => .inl rfl
  | _ :: _, [] => .inr (.inr rfl)
  | x :: a, y :: b => by
    unfold cmpL
    split
    · exact cmp_form a b
    · split
      · exact .inl rfl
      · exact .inr (.inr rfl)
theorem lt_trans : ∀ a b c, cmpL a b < 0 → cmpL b c < 0 → cmpL a c < 0
  | [], [], _, h, _ => by simp [cmpL] at h
  | [], _ :: _, [], _, h => by simp [cmpL] at h
  | [], _ :: _, _ :: _, _, _ => by simp [cmpL]
  | _ :: _, [], _, h, _ => by simp [cmpL] at h
  | _ :: _, _ :: _, [], _, h => by simp [cmpL] at h
  | x :: a, y :: b, z :: c, h1, h2 => by
    unfold cmpL at h1 h2 ⊢
    by_cases e1 : x = y
    · subst e1
      by_cases e2 : x = z
      · subst e2
        simp only [if_true] at h1 h2 ⊢
        exact lt_trans a b c h1 h2
      · rw [if_neg e2] at h2 ⊢
        exact h2
    · rw [if_neg e1] at h1
      by_cases e2 : y = z
      · subst e2
        rw [if_neg e1]
        exact h1
      · rw [if_neg e2] at h2
        have h3 : ord x < ord y := by
          apply Classical.byContradiction
          intro h
          rw [if_neg h] at h1
          omega
        have h4 : ord y < ord z := by
          apply Classical.byContradiction
          intro h
          rw [if_neg h] at h2
          omega
        have e3 : ¬ x = z := fun h => by subst h; omega
        rw [if_neg e3, if_pos (by omega)]
        decide
theorem lt_total (a b : Tx) : cmpL a b < 0 ∨ a = b ∨ cmpL b a < 0 := by
  rcases cmp_form a b with h | h | h
  · exact .inl (by omega)
  · exact .inr (.inl (cmp_zero a b h))
  · exact .inr (.inr (by rw [cmp_turn]; omega))
theorem swoL : Go.Sort.SWO ltL where
  irrefl x := by simp [ltL, cmp_self]
  trans x y z h1 h2 := by
    simp only [ltL, decide_eq_true_eq] at *
    exact lt_trans x y z h1 h2
  ntrans x y z h1 h2 := by
    simp only [ltL, decide_eq_false_iff_not] at *
    intro h
    rcases lt_total x y with a | rfl | a
    · exact h1 a
    · exact h2 h
    · exact h2 (lt_trans y x z a h)
theorem ltL_one (x y : Tx) (h1 : ltL x y = false) (h2 : ltL y x = false) : x = y := by
  simp only [ltL, decide_eq_false_iff_not] at *
  rcases lt_total x y with a | a | a
  · exact absurd a h1
  · exact a
  · exact absurd a h2
end Nd
end Go.Proofs.YtbajkglacfheiaaGreatDoor

