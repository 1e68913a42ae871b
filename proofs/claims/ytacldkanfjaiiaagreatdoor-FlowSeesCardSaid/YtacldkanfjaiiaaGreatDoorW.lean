/- Words for memory: a slice that reads as cells. -/
import Derived.Test.YtacldkanfjaiiaaGreatDoorProg
import Derived.WalkKit
import Derived.WalkSpells
import Derived.WalkLawsBesides
import Derived.Lib.Hide
import Derived.Deep.QuietTactic
import Derived.BigQuiet
import Derived.StillTailTactics
import Derived.Deep.Draws
import Derived.Deep.DeepFit
import Derived.Deep.DeepMust
namespace Go.Proofs.YtacldkanfjaiiaaGreatDoor
open Go.RowKit
set_option maxRecDepth 100000

/-- slice parts (A, n) whose n elements (sz cells each) are the cells xs, below block B -/
def Sl (w : World) (B sz : Nat) (A : Option Addr) (n : Nat) (xs : List Value) : Prop :=
  xs.length = n * sz ∧ n ≤ 9223372036854775807 ∧ (0 < n → ∃ b off, A = some ⟨b, off, none⟩ ∧ b < B ∧ ∀ j u, xs[j]? = some u → w.cell? ⟨b, off + j, none⟩ = some u)

section
variable {w w' : World} {B B' sz n : Nat} {A : Option Addr} {xs : List Value}
theorem Sl.nil_ : Sl w B sz A 0 [] := ⟨by simp, by omega, fun h => absurd h (by omega)⟩
theorem Sl.keep (h : Sl w B sz A n xs) (hk : ∀ p : Addr, p.block < B → w'.cell? p = w.cell? p) : Sl w' B sz A n xs :=
  ⟨h.1, h.2.1, fun hn => by
    obtain ⟨b, off, e, hb, hc⟩ := h.2.2 hn
    exact ⟨b, off, e, hb, fun j u hu => (hk _ hb).trans (hc j u hu)⟩⟩
theorem Sl.below (h : Sl w B sz A n xs) (hb : Below B w w') : Sl w' B sz A n xs := h.keep fun _ hp => hb.cell hp
theorem Sl.more (h : Sl w B sz A n xs) (hB : B ≤ B') : Sl w B' sz A n xs :=
  ⟨h.1, h.2.1, fun hn => by
    obtain ⟨b, off, e, hb, hc⟩ := h.2.2 hn
    exact ⟨b, off, e, by omega, hc⟩⟩
theorem Sl.alloc (h : Sl w B sz A n xs) (hB : B ≤ w.heap.size) (o : Obj) : Sl (w.alloc o) B sz A n xs := h.keep fun p hp => World.cell?_alloc_lt w o p (by omega)
end

theorem ret_bool {a b : Bool} (h : a = b) : Ending.returned (.bool a) = .returned (.bool b) := by rw [h]
theorem ret_int {k : IntKind} {a b : Int} (h : a = b) : Ending.returned (.int k a) = .returned (.int k b) := by rw [h]

/-- the k-th number (0 beyond the end) -/
def tg (ts : List Nat) (k : Nat) : Nat := ts.getD k 0
theorem tg_mem {ts : List Nat} {k : Nat} (h : k < ts.length) : tg ts k ∈ ts := by
  simp [tg, List.getD_eq_getElem?_getD, h]
theorem tg_of {ts : List Nat} {t : Nat} (h : t ∈ ts) : ∃ j, j < ts.length ∧ tg ts j = t := by
  obtain ⟨j, hj, e⟩ := List.mem_iff_getElem.1 h
  exact ⟨j, hj, by simp [tg, List.getD_eq_getElem?_getD, hj, e]⟩
/-- is a number among some? -/
def hasB (ts : List Nat) (t : Nat) : Bool := ts.contains t
theorem hasB_true {ts : List Nat} {t : Nat} (h : t ∈ ts) : hasB ts t = true := by simpa [hasB] using h
theorem hasB_false {ts : List Nat} {t : Nat} (h : t ∉ ts) : hasB ts t = false := by simpa [hasB] using h
theorem hasB_iff {ts : List Nat} {t : Nat} : hasB ts t = true ↔ t ∈ ts := by simp [hasB]

/-- a tag as a cell -/
def U (t : Nat) : Value := .int .u16 (t : Int)
def Us (ts : List Nat) : List Value := ts.map U
theorem Us_len (ts : List Nat) : (Us ts).length = ts.length := by simp [Us]
theorem Sl.tag {w : World} {B n : Nat} {A : Option Addr} {ts : List Nat} (h : Sl w B 1 A n (Us ts)) {k : Nat} (hk : k < n) :
    ∃ b off, A = some ⟨b, off, none⟩ ∧ b < B ∧ w.cell? ⟨b, off + k, none⟩ = some (.int .u16 ((tg ts k : Nat) : Int)) ∧ k < ts.length := by
  obtain ⟨b, off, e, hb, hc⟩ := h.2.2 (by omega)
  have hl : k < ts.length := by have := h.1; simp [Us] at this; omega
  refine ⟨b, off, e, hb, hc k _ ?_, hl⟩
  simp [Us, hl, U, tg]
theorem Sl.len1 {w : World} {B n : Nat} {A : Option Addr} {ts : List Nat} (h : Sl w B 1 A n (Us ts)) : ts.length = n := by have := h.1; simp [Us] at this; omega
theorem flat_len {α : Type} (f : α → List Value) (m : Nat) (hf : ∀ a, (f a).length = m) : ∀ l : List α, (l.flatMap f).length = l.length * m
  | [] => by simp
  | a :: l => by rw [List.flatMap_cons, List.length_append, flat_len f m hf l, hf, List.length_cons, Nat.succ_mul, Nat.add_comm]
theorem flat_get {α : Type} (f : α → List Value) (m : Nat) (hf : ∀ a, (f a).length = m) : ∀ (l : List α) (k j : Nat) (a : α), l[k]? = some a → j < m → (l.flatMap f)[k * m + j]? = (f a)[j]?
  | [], k, j, a, h, _ => by simp at h
  | x :: l, 0, j, a, h, hj => by
    simp at h; subst h
    rw [List.flatMap_cons, Nat.zero_mul, Nat.zero_add, List.getElem?_append_left (by rw [hf]; exact hj)]
  | x :: l, k + 1, j, a, h, hj => by
    rw [List.flatMap_cons, List.getElem?_append_right (by rw [hf, Nat.succ_mul]; omega), hf, show (k + 1) * m + j - m = k * m + j by rw [Nat.succ_mul]; omega]
    exact flat_get f m hf l k j a (by simpa using h) hj
theorem Sl.elem {α : Type} {f : α → List Value} {m : Nat} (hf : ∀ a, (f a).length = m) (hm : 0 < m) {w : World} {B n : Nat} {A : Option Addr} {l : List α} (h : Sl w B m A n (l.flatMap f)) {k : Nat} (hk : k < n) :
    ∃ b off a, A = some ⟨b, off, none⟩ ∧ b < B ∧ l[k]? = some a ∧ ∀ j, j < m → w.cell? ⟨b, off + (k * m + j), none⟩ = (f a)[j]? := by
  obtain ⟨b, off, e, hb, hc⟩ := h.2.2 (by omega)
  have hl : l.length = n := by
    have := h.1; rw [flat_len f m hf] at this; exact Nat.eq_of_mul_eq_mul_right hm this
  refine ⟨b, off, l[k]'(by omega), e, hb, List.getElem?_eq_getElem (by omega), fun j hj => ?_⟩
  have hg := flat_get f m hf l k j _ (List.getElem?_eq_getElem (by omega)) hj
  have hjl : j < (f (l[k]'(by omega))).length := by rw [hf]; exact hj
  have hu := List.getElem?_eq_getElem hjl
  rw [hu]
  exact hc _ _ (hg.trans hu)
theorem take_next {α : Type} {l : List α} {k : Nat} {a : α} (h : l[k]? = some a) : l.take (k + 1) = l.take k ++ [a] := by
  obtain ⟨hk, e⟩ := List.getElem?_eq_some_iff.1 h
  rw [List.take_succ_eq_append_getElem hk, e]
theorem flat_append {α : Type} (f : α → List Value) (l : List α) (a : α) : (l ++ [a]).flatMap f = l.flatMap f ++ f a := by simp

theorem quiet_more {P : Program} {f : FuncId} {args : Array Value} {w : World} {a n : Nat} {v : Value}
    (h : Calls P f args (w.drewN (a + n)) fun e w' => e = .returned v ∧ ∃ m, w' = (w.drewN (a + n)).drewN m) :
    Calls P f args (w.drewN (a + n)) fun e w'' => e = .returned v ∧ ∃ m, w'' = w.drewN (a + m) :=
  h.mono fun _ _ ⟨he, m, hm⟩ => ⟨he, n + m, by rw [hm, World.drewN_drewN, Nat.add_assoc]⟩
theorem quiet_keep {P : Program} {f : FuncId} {args : Array Value} {w : World} {a n : Nat} {v : Value}
    (h : Calls P f args (w.drewN (a + n)) fun e w' => e = .returned v ∧ w.drewN (a + n) = w') :
    Calls P f args (w.drewN (a + n)) fun e w'' => e = .returned v ∧ ∃ m, w'' = w.drewN (a + m) :=
  h.mono fun _ _ ⟨he, hm⟩ => ⟨he, n, hm.symm⟩
theorem quiet_one {P : Program} {f : FuncId} {args : Array Value} {w : World} {n : Nat} {v : Value}
    (h : Calls P f args (w.drewN n) fun e w' => e = .returned v ∧ ∃ m, w' = (w.drewN n).drewN m) :
    Calls P f args (w.drewN n) fun e w'' => e = .returned v ∧ ∃ m, w'' = w.drewN m :=
  h.mono fun _ _ ⟨he, m, hm⟩ => ⟨he, n + m, by rw [hm, World.drewN_drewN]⟩
theorem quiet_one_keep {P : Program} {f : FuncId} {args : Array Value} {w : World} {n : Nat} {v : Value}
    (h : Calls P f args (w.drewN n) fun e w' => e = .returned v ∧ w.drewN n = w') : Calls P f args (w.drewN n) fun e w'' => e = .returned v ∧ ∃ m, w'' = w.drewN m :=
  h.mono fun _ _ ⟨he, hm⟩ => ⟨he, n, hm.symm⟩
theorem Sl.drewN {w : World} {B sz n : Nat} {A : Option Addr} {xs : List Value} (h : Sl w B sz A n xs) (d : Nat) : Sl (w.drewN d) B sz A n xs := h
end Go.Proofs.YtacldkanfjaiiaaGreatDoor
