/- Words for what a call makes: one element pushed onto a row of its own; a row of its own reads as a slice. -/
import Derived.Test.YtacldkanfjaiiaaGreatDoorW
import Derived.OwnWalk
import Derived.Laws.OwnMore
namespace Go.Proofs.YtacldkanfjaiiaaGreatDoor
open Go.RowKit
set_option maxRecDepth 100000

/-- a slice type: its number, its element's, the cells and bytes of one -/
structure SliceTy (P : Program) (t e sz bytes : Nat) : Prop where
  ut : P.underlying t = some (.slice e)
  info : ∃ i z, P.info? e = some i ∧ i.zero = some z ∧ i.size = sz ∧ i.bytes = bytes ∧ z.cells.size = sz
  pos : 0 < sz

theorem SliceTy.mk' {P : Program} {t e sz bytes : Nat} {z : Value} (ut : P.underlying t = some (.slice e)) (h : (P.info? e).map (fun i => (i.zero, i.size, i.bytes)) = some (some z, sz, bytes)) (hz : z.cells.size = sz) (hp : 0 < sz) : SliceTy P t e sz bytes := by
  obtain ⟨i, h1, h2, h3, h4⟩ := info_parts h
  exact ⟨ut, ⟨i, z, h1, h2, h3, h4, hz⟩, hp⟩

theorem add_zero_block (g j : Nat) : (⟨g, 0, none⟩ : Addr).add j = ⟨g, j, none⟩ := by unfold Addr.add; split <;> simp_all

theorem wpList_push {P : Program} {t e sz bytes : Nat} (hT : SliceTy P t e sz bytes) {ops : Array Oper} {rest : List Oper} {o : Oper} {a : Act} {Q : Exit → Act → World → Prop} (hgd : o.guard = none) (s x : Operand)
    (ho : o.op = .call { callee := .builtin .append, args := #[s, x], argTypes := #[t, t] }) {W : World} {base n : Nat} {v : Value} {xs : List Value} {cs : Array Value}
    (hs : a.eval s = v) (hx : a.eval x = .slice (some ⟨W.heap.size, 0, none⟩) 1 1) (hown : W.ownsRow base e sz v n xs)
    (hcs : cs.size = sz) (h1 : ∀ u ∈ cs.toList, u.oneCell' = true) (hb : (n + 1) * bytes ≤ 140737488355328) (hn : n < maxLen) (hbase : base ≤ W.heap.size)
    (h : ∀ v' w', w'.ownsRow base e sz v' (n + 1) (xs ++ cs.toList) → Below base W w' → W.heap.size < w'.heap.size → wpList P ops Q rest (a.put o.dst v') w') : wpList P ops Q (o :: rest) a (W.alloc (.cells cs e)) := by
  obtain ⟨i, z, hi, hz, hs1, hby, hzs⟩ := hT.info
  refine wpList_append_own (W.alloc (.cells cs e)) hgd s x t ho base e i z sz bytes hT.ut hi hz hs1 hby hzs hT.pos v n xs hs (hown.alloc _) ⟨W.heap.size, 0, none⟩ 1 1 cs.toList hx (by simp [hcs]) ?_ h1 (by omega) hb (by simp; omega) ?_
  · intro j u hj
    rw [add_zero_block, World.cell?_alloc_at _ _ _ _ rfl]
    simpa using hj
  · intro v' w' h2 h3 _
    refine h v' w' h2 ?_ ?_
    · exact ((Below.refl _ _).alloc hbase _).grown h3 (by simp; omega) (fun k hk => (hown.lt k hk).1)
    · have := h3.size; simp at this; omega

theorem wp_push {P : Program} {t e sz bytes : Nat} (hT : SliceTy P t e sz bytes) {o : Oper} {a : Act} {K : Act → World → Prop} {Q : Exit → Act → World → Prop} (s x : Operand)
    (ho : o.op = .call { callee := .builtin .append, args := #[s, x], argTypes := #[t, t] }) {W : World} {base n : Nat} {v : Value} {xs : List Value} {cs : Array Value}
    (hs : a.eval s = v) (hx : a.eval x = .slice (some ⟨W.heap.size, 0, none⟩) 1 1) (hown : W.ownsRow base e sz v n xs)
    (hcs : cs.size = sz) (h1 : ∀ u ∈ cs.toList, u.oneCell' = true) (hb : (n + 1) * bytes ≤ 140737488355328) (hn : n < maxLen) (hbase : base ≤ W.heap.size)
    (h : ∀ v' w', w'.ownsRow base e sz v' (n + 1) (xs ++ cs.toList) → Below base W w' → W.heap.size < w'.heap.size → W.grownBy w' v.ownBlock → K (a.put o.dst v') w') : o.wp P a (W.alloc (.cells cs e)) K Q := by
  obtain ⟨i, z, hi, hz, hs1, hby, hzs⟩ := hT.info
  refine wp_append_own (W.alloc (.cells cs e)) s x t ho base e i z sz bytes hT.ut hi hz hs1 hby hzs hT.pos v n xs hs (hown.alloc _) ⟨W.heap.size, 0, none⟩ 1 1 cs.toList hx (by simp [hcs]) ?_ h1 (by omega) hb (by simp; omega) ?_
  · intro j u hj
    rw [add_zero_block, World.cell?_alloc_at _ _ _ _ rfl]
    simpa using hj
  · intro v' w' h2 h3 _
    have hg : W.grownBy w' v.ownBlock := ⟨h3.os, h3.tape, h3.output, by have := h3.size; simp at this; omega, fun k hk hne => (h3.block k (by simp; omega) hne).trans (Below.heap_alloc W _ k hk)⟩
    refine h v' w' h2 ?_ ?_ hg
    · exact ((Below.refl _ _).alloc hbase _).grown h3 (by simp; omega) (fun k hk => (hown.lt k hk).1)
    · have := h3.size; simp at this; omega

theorem step_push {P : Program} {t e sz bytes : Nat} (hT : SliceTy P t e sz bytes) {ops : Array Oper} {o : Oper} {a : Act} {K : Act → World → Prop} {Q : Exit → Act → World → Prop} {E : Prop} (hgd : o.guard = none) (s x : Operand)
    (ho : o.op = .call { callee := .builtin .append, args := #[s, x], argTypes := #[t, t] }) {W : World} {base n : Nat} {v : Value} {xs : List Value} {cs : Array Value}
    (hs : a.eval s = v) (hx : a.eval x = .slice (some ⟨W.heap.size, 0, none⟩) 1 1) (hown : W.ownsRow base e sz v n xs)
    (hcs : cs.size = sz) (h1 : ∀ u ∈ cs.toList, u.oneCell' = true) (hb : (n + 1) * bytes ≤ 140737488355328) (hn : n < maxLen) (hbase : base ≤ W.heap.size)
    (h : ∀ v' w', w'.ownsRow base e sz v' (n + 1) (xs ++ cs.toList) → Below base W w' → W.heap.size < w'.heap.size → W.grownBy w' v.ownBlock → K (a.put o.dst v') w') :
    if Region.wanted o (yielded ops a.tmps) = true then Oper.wp P o a (W.alloc (.cells cs e)) K Q else E := by
  have hw : Region.wanted o (yielded ops a.tmps) = true := by simp [Region.wanted, hgd]
  rw [if_pos hw]
  exact wp_push hT s x ho hs hx hown hcs h1 hb hn hbase h

/-- append of a slice (nil or not) onto a row of the call's own -/
theorem wpList_cat {P : Program} {t e sz bytes : Nat} (hT : SliceTy P t e sz bytes) {ops : Array Oper} {rest : List Oper} {o : Oper} {a : Act} {Q : Exit → Act → World → Prop} (hgd : o.guard = none) (s x : Operand)
    (ho : o.op = .call { callee := .builtin .append, args := #[s, x], argTypes := #[t, t] }) {W : World} {base n : Nat} {v : Value} {xs : List Value} {B m c : Nat} {ad : Addr} {news : List Value}
    (hs : a.eval s = v) (hx : a.eval x = .slice (some ad) m c) (hown : W.ownsRow base e sz v n xs) (hr : Sl W B sz (some ad) m news)
    (h1 : ∀ u ∈ news, u.oneCell' = true) (hb : (n + m) * bytes ≤ 140737488355328) (hn : n + m ≤ maxLen) (hbase : base ≤ W.heap.size)
    (h : ∀ v' w', w'.ownsRow base e sz v' (n + m) (xs ++ news) → Below base W w' → W.heap.size ≤ w'.heap.size → wpList P ops Q rest (a.put o.dst v') w') : wpList P ops Q (o :: rest) a W := by
  obtain ⟨i, z, hi, hz, hs1, hby, hzs⟩ := hT.info
  refine wpList_append_own W hgd s x t ho base e i z sz bytes hT.ut hi hz hs1 hby hzs hT.pos v n xs hs hown ad m c news hx hr.1 ?_ h1 hn hb hbase ?_
  · intro j u hj
    rcases Nat.eq_zero_or_pos m with h0 | h0
    · subst h0
      have : news = [] := List.eq_nil_of_length_eq_zero (by simpa using hr.1)
      subst this; simp at hj
    · obtain ⟨b, off, e1, _, hc⟩ := hr.2.2 h0
      injection e1 with e1; subst e1
      have := hc j u hj
      unfold Addr.add
      split
      · rename_i h; subst h; simpa using this
      · simpa using this
  · intro v' w' h2 h3 _
    exact h v' w' h2 ((Below.refl _ _).grown h3 hbase (fun k hk => (hown.lt k hk).1)) h3.size

theorem own_empty (w : World) (base e sz : Nat) (hb : base ≤ w.heap.size) : (w.alloc (.cells #[] e)).ownsRow base e sz (.slice (some ⟨w.heap.size, 0, none⟩) 0 0) 0 [] :=
  World.ownsRow_made w #[] 0 hb (by simp) (by simp)

theorem own_sl {w : World} {base e sz n : Nat} {v : Value} {xs : List Value} (h : w.ownsRow base e sz v n xs) (hn : n ≤ 9223372036854775807) : ∃ A c, v = .slice A n c ∧ Sl w w.heap.size sz A n xs ∧ ∀ ad, A = some ad → base ≤ ad.block := by
  obtain ⟨hl, h⟩ := h
  rcases h with ⟨rfl, rfl⟩ | ⟨g, cap, cur, rfl, hg, hh, hnc, hcm, hcs, hx⟩
  · exact ⟨none, 0, rfl, ⟨hl, by omega, fun h => absurd h (by omega)⟩, fun ad h => by cases h⟩
  · refine ⟨some ⟨g, 0, none⟩, cap, rfl, ⟨hl, hn, fun _ => ⟨g, 0, rfl, ?_, fun j u hu => ?_⟩⟩, fun ad h => by injection h with h; subst h; exact hg⟩
    · have := (Array.getElem?_eq_some_iff.1 hh).1; exact this
    · rw [cell_of_row w g _ cur e (0, 0) hh]
      rw [← hx, List.getElem?_take] at hu
      split at hu
      · simpa using hu
      · cases hu
theorem heap_at (w : World) (o : Obj) (i : Nat) (h : i = w.heap.size) : (w.alloc o).heap[i]? = some o := by subst h; exact heap_alloc_new w o
theorem heap_old (w : World) (o : Obj) (i : Nat) (h : i < w.heap.size) : (w.alloc o).heap[i]? = w.heap[i]? := by show (w.heap.push o)[i]? = _; rw [Array.getElem?_push, if_neg (by omega)]
theorem below_drewN {B : Nat} {a w : World} (h : Below B a w) (n : Nat) : Below B a (w.drewN n) := ⟨h.os, h.tape, h.output, h.size, h.block⟩

/-- rows of different element types lie in different blocks -/
theorem own_row_ne {w : World} {base e sz n : Nat} {v : Value} {xs : List Value} (h : w.ownsRow base e sz v n xs) {row : Option Nat} {e' : Nat} (hr : ∀ k, row = some k → ∃ cs fr, w.heap[k]? = some (.cells cs e' fr)) (hne : e ≠ e') : v.ownBlock = none ∨ v.ownBlock ≠ row := by
  obtain ⟨_, h⟩ := h
  rcases h with ⟨rfl, _⟩ | ⟨g, cap, cur, rfl, _, hh, _⟩
  · exact .inl rfl
  · refine .inr fun h => ?_
    obtain ⟨cs, fr, h2⟩ := hr g h.symm
    rw [hh] at h2
    injection h2 with h2; injection h2 with _ h2 _
    exact hne h2
theorem own_is_row {w : World} {base e sz n : Nat} {v : Value} {xs : List Value} (h : w.ownsRow base e sz v n xs) : ∀ k, v.ownBlock = some k → ∃ cs fr, w.heap[k]? = some (.cells cs e fr) := by
  intro k hk
  obtain ⟨_, h⟩ := h
  rcases h with ⟨rfl, _⟩ | ⟨g, cap, cur, rfl, _, hh, _⟩
  · cases hk
  · simp [Value.ownBlock] at hk; subst hk; exact ⟨_, _, hh⟩
theorem own_mono {w : World} {base base' e sz n : Nat} {v : Value} {xs : List Value} (h : w.ownsRow base e sz v n xs) (hb : base' ≤ base) : w.ownsRow base' e sz v n xs := by
  obtain ⟨hl, h⟩ := h
  rcases h with h | ⟨g, cap, cur, hv, hg, r⟩
  · exact ⟨hl, .inl h⟩
  · exact ⟨hl, .inr ⟨g, cap, cur, hv, Nat.le_trans hb hg, r⟩⟩
theorem own_below {w w' : World} {base e sz n : Nat} {v : Value} {xs : List Value} (h : w.ownsRow base e sz v n xs) (hb : Below w.heap.size w w') : w'.ownsRow base e sz v n xs := by
  obtain ⟨hl, h⟩ := h
  rcases h with h | ⟨g, cap, cur, hv, hg, hh, r⟩
  · exact ⟨hl, .inl h⟩
  · exact ⟨hl, .inr ⟨g, cap, cur, hv, hg, (hb.block g (Array.getElem?_eq_some_iff.1 hh).1).trans hh, r⟩⟩
theorem below_alloc (w : World) (o : Obj) : Below w.heap.size w (w.alloc o) := (Below.refl _ _).alloc (Nat.le_refl _) o
theorem new_cell {w w1 : World} {cs : Array Value} {t : TypeId} (hb : Below (w.alloc (.cells cs t)).heap.size (w.alloc (.cells cs t)) w1) (j : Nat) : w1.cell? ⟨w.heap.size, j, none⟩ = cs[j]? := by
  rw [hb.cell (p := ⟨w.heap.size, j, none⟩) (by simp), World.cell?_alloc_at _ _ _ _ rfl]
end Go.Proofs.YtacldkanfjaiiaaGreatDoor
