/- Arguments opened: labels, replies. -/
import Derived.Test.YtacldkanfjaiiaaGreatDoorT
import Derived.Deep.Slices
import Derived.Deep.Fields
namespace Go.Proofs.YtacldkanfjaiiaaGreatDoor
open Go.RowKit Go.ChangeShapes Go.WideShapes Go.Deep
set_option maxRecDepth 100000

theorem addr_plain {w : World} {a : Addr} {v : Value} (h : w.cell? (a.add 0) = some v) : a = ⟨a.block, a.off, none⟩ ∧ a.block < w.heap.size := by
  have e : a.add 0 = a := by simp [Addr.add]
  rw [e] at h
  unfold World.cell? at h
  split at h
  · rename_i c t f hb
    split at h
    · cases h
    · rename_i hs
      refine ⟨?_, (Array.getElem?_eq_some_iff.1 hb).1⟩
      cases a with
      | mk b o s => cases s with
        | none => rfl
        | some _ => simp at hs
  · cases h
theorem add_plain (b o j : Nat) : (⟨b, o, none⟩ : Addr).add j = ⟨b, o + j, none⟩ := by
  unfold Addr.add
  split
  · rename_i h; subst h; rfl
  · rfl

theorem Us_flat : ∀ l : List Nat, Us l = List.flatMap (fun a : Nat => [U a]) l
  | [] => rfl
  | a :: l => by
    have := Us_flat l
    unfold Us at this ⊢
    rw [List.map_cons, this]; rfl

section
variable {H : Type} {enc : TypeId × Value → H} {P : Program} {w : World} {base : Nat} {spare : Nat → Bool} {held : Bool}

theorem sl_of_elems {α : Type} {f : α → List Value} {m : Nat} (hf : ∀ a, (f a).length = m) (hm : 0 < m) (g : Nat → α) {n : Nat} (hn : n ≤ 9223372036854775807) {a : Addr} (hc : ∀ i, i < n → ∀ j, j < m → w.cell? (a.add (i * m + j)) = (f (g i))[j]?) :
    Sl w w.heap.size m (some a) n (((List.range n).map g).flatMap f) := by
  have hlen : (((List.range n).map g).flatMap f).length = n * m := by rw [flat_len f m hf]; simp
  refine ⟨hlen, hn, fun h0 => ?_⟩
  have hx : ∃ v, w.cell? (a.add 0) = some v := by
    have := hc 0 h0 0 hm
    rw [show 0 * m + 0 = 0 by omega] at this
    rw [this]
    exact ⟨_, List.getElem?_eq_getElem (by rw [hf]; exact hm)⟩
  obtain ⟨v, hv⟩ := hx
  obtain ⟨e, hb⟩ := addr_plain hv
  refine ⟨a.block, a.off, by rw [← e], hb, fun j u hj => ?_⟩
  have hjl : j < n * m := by rw [← hlen]; exact (List.getElem?_eq_some_iff.1 hj).1
  have hi : j / m < n := by rw [Nat.div_lt_iff_lt_mul hm]; exact hjl
  have hq : j % m < m := Nat.mod_lt _ hm
  have hdm : j / m * m + j % m = j := by rw [Nat.mul_comm]; exact Nat.div_add_mod j m
  have h1 := hc (j / m) hi (j % m) hq
  rw [hdm, e, add_plain] at h1
  rw [h1, ← hj]
  have h2 := flat_get f m hf ((List.range n).map g) (j / m) (j % m) (g (j / m)) (by simp [hi]) hq
  rw [hdm] at h2
  exact h2.symm

theorem open_sl {α : Type} [Inhabited α] (f : α → List Value) (m : Nat) (hm : 0 < m) (hf : ∀ a, (f a).length = m) (Q : α → Prop) {t e : TypeId} (ht : P.underlying t = some (.slice e)) (hC : P.cellsOf e = m)
    (hel : ∀ n cs y, cs.length = m → DataW.trod enc P w base spare held n e cs = some y → ∃ a, cs = f a ∧ Q a)
    {fuel : Nat} {cs : List Value} {x : DataW H × List MemPlace} (h : DataW.trod enc P w base spare held fuel t cs = some x) :
    ∃ A n c l, cs = [.slice A n c] ∧ Sl w w.heap.size m A n (List.flatMap f l) ∧ ∀ a ∈ l, Q a := by
  rcases open_slice ht h with ⟨rfl, _⟩ | ⟨a, len, cap, m', n, D, Pl, rfl, hb, hl, hcap, hm', _, hi⟩
  · exact ⟨none, 0, 0, [], rfl, Sl.nil_, fun a ha => by simp at ha⟩
  · have hlm : len ≤ m' := by rw [hm']; split <;> omega
    obtain ⟨g, hg⟩ := choose_lt (n := len) (p := fun i x => (∀ j, j < m → w.cell? (a.add (i * m + j)) = (f x)[j]?) ∧ Q x) (fun i him => by
      obtain ⟨cs', hc, ht'⟩ := hi i (by omega)
      obtain ⟨_, hcl, hat⟩ := World.cells?_some hc
      rw [hC] at hcl hat
      obtain ⟨x, rfl, hq⟩ := hel _ _ _ hcl ht'
      refine ⟨x, fun j hj => ?_, hq⟩
      rw [← hat j hj, add_add])
    refine ⟨some a, len, cap, (List.range len).map g, rfl, sl_of_elems hf hm g (by unfold maxLen at hcap; omega) (fun i hi j hj => (hg i hi).1 j hj), fun x hx => ?_⟩
    obtain ⟨i, hi, rfl⟩ := List.mem_map.1 hx
    exact (hg i (List.mem_range.1 hi)).2

theorem open_tags {t e : TypeId} (ht : P.underlying t = some (.slice e)) (he : P.underlying e = some (.int .u16)) (hC : P.cellsOf e = 1) {fuel : Nat} {cs : List Value} {x : DataW H × List MemPlace} (h : DataW.trod enc P w base spare held fuel t cs = some x) :
    ∃ A n c ts, cs = [.slice A n c] ∧ Sl w w.heap.size 1 A n (Us ts) := by
  obtain ⟨A, n, c, l, h1, h2, _⟩ := open_sl (fun a : Nat => [U a]) 1 (by omega) (fun _ => rfl) (fun _ => True) ht hC (fun n cs y hl hy => by
    obtain ⟨z, rfl, _, hw⟩ := DataW.trod_int he hy
    simp only [Lit.wf, Bool.and_eq_true, decide_eq_true_eq] at hw
    have h3 : (0 : Int) ≤ z := hw.1
    exact ⟨z.toNat, by simp [U, Int.toNat_of_nonneg h3], trivial⟩) h
  refine ⟨A, n, c, l, h1, ?_⟩
  rw [Us_flat]; exact h2

theorem fields_of {t : TypeId} {fs : Array Field} (hs : P.underlying t = some (.struct fs)) (hone : oneCellFields P fs = true) {fuel : Nat} {cs : List Value} {x : DataW H × List MemPlace} (hl : cs.length = fs.size) (h : DataW.trod enc P w base spare held fuel t cs = some x) :
    ∃ n : Nat, ∀ (j : Nat) (f : Field), fs[j]? = some f → ∃ v y, cs[j]? = some v ∧ DataW.trod enc P w base spare held n f.type [v] = some y := by
  obtain ⟨ys, n, _, _, _, hyl, hf⟩ := DataW.trod_struct hs h
  refine ⟨n, fun j f hj => ?_⟩
  obtain ⟨ho, hk⟩ := hone_of hone j f hj
  have hjl : j < fs.size := (Array.getElem?_eq_some_iff.1 hj).1
  have h1 := hf j f hj
  rw [ho, hk] at h1
  have hone' : (cs.drop j).take 1 = [cs[j]'(by omega)] := by
    rw [List.drop_eq_getElem_cons (by omega)]
    rfl
  rw [hone'] at h1
  have hys : ys[j]? = some (ys[j]'(by omega)) := List.getElem?_eq_getElem (by omega)
  exact ⟨_, _, List.getElem?_eq_getElem (by omega), h1.trans hys⟩
end

instance : Inhabited Vl := ⟨⟨0, 0, ⟨#[]⟩⟩⟩
instance : Inhabited Rw := ⟨⟨none, 0, 0, []⟩⟩
instance : Inhabited Rp := ⟨noRp⟩

section
variable {H : Type} {enc : TypeId × Value → H} {w : World} {base : Nat} {spare : Nat → Bool} {held : Bool}
theorem open_label {fuel : Nat} {cs : List Value} {x : DataW H × List MemPlace} (h : DataW.trod enc Tryz.prog w base spare held fuel 23 cs = some x) :
    ∃ A n c ts, cs = [.slice A n c] ∧ Sl w w.heap.size 1 A n (Us ts) :=
  open_tags Tryz.underlying23 Tryz.underlying39 (by kernel_rfl) h

theorem open_val {fuel : Nat} {cs : List Value} {x : DataW H × List MemPlace} (hl : cs.length = 3) (h : DataW.trod enc Tryz.prog w base spare held fuel 115 cs = some x) : ∃ a, cs = Vl.cells a := by
  obtain ⟨n, hg⟩ := fields_of Tryz.underlying115 (by kernel_rfl) hl h
  obtain ⟨v0, y0, e0, g0⟩ := hg 0 _ rfl
  obtain ⟨v1, y1, e1, g1⟩ := hg 1 _ rfl
  obtain ⟨v2, y2, e2, g2⟩ := hg 2 _ rfl
  obtain ⟨n0, h0, _⟩ := DataW.trod_int Tryz.underlying3 g0
  obtain ⟨n1, h1, _⟩ := DataW.trod_int Tryz.underlying2 g1
  obtain ⟨n2, h2, _⟩ := DataW.trod_string Tryz.underlying9 g2
  injection h0 with h0; injection h1 with h1; injection h2 with h2
  subst h0 h1 h2
  match cs, hl with
  | [a, b, c], _ =>
    simp at e0 e1 e2
    subst e0 e1 e2
    exact ⟨⟨n0, n1, n2⟩, rfl⟩

theorem open_row {fuel : Nat} {cs : List Value} {x : DataW H × List MemPlace} (h : DataW.trod enc Tryz.prog w base spare held fuel 79 cs = some x) :
    ∃ A n c vs, cs = [.slice A n c] ∧ Sl w w.heap.size 3 A n (Vs vs) := by
  obtain ⟨A, n, c, l, h1, h2, _⟩ := open_sl Vl.cells 3 (by omega) (fun _ => rfl) (fun _ => True) Tryz.underlying79 (by kernel_rfl) (fun n cs y hl hy => by
    obtain ⟨a, ha⟩ := open_val hl hy
    exact ⟨a, ha, trivial⟩) h
  exact ⟨A, n, c, l, h1, h2⟩

theorem open_rows {fuel : Nat} {cs : List Value} {x : DataW H × List MemPlace} (h : DataW.trod enc Tryz.prog w base spare held fuel 28 cs = some x) :
    ∃ A n c rs, cs = [.slice A n c] ∧ Sl w w.heap.size 1 A n (List.flatMap Rw.cells rs) ∧ ∀ r ∈ rs, r.Ok w w.heap.size :=
  open_sl Rw.cells 1 (by omega) (fun _ => rfl) (fun r => r.Ok w w.heap.size) Tryz.underlying28 (by kernel_rfl) (fun n cs y hl hy => by
    obtain ⟨A, n, c, vs, rfl, h2⟩ := open_row hy
    exact ⟨⟨A, n, c, vs⟩, rfl, h2⟩) h

theorem open_reply {fuel : Nat} {cs : List Value} {x : DataW H × List MemPlace} (hl : cs.length = 7) (h : DataW.trod enc Tryz.prog w base spare held fuel 31 cs = some x) : ∃ a, cs = Rp.cells a ∧ a.Ok w w.heap.size := by
  obtain ⟨n, hg⟩ := fields_of Tryz.underlying31 (by kernel_rfl) hl h
  obtain ⟨v0, y0, e0, g0⟩ := hg 0 _ rfl
  obtain ⟨v1, y1, e1, g1⟩ := hg 1 _ rfl
  obtain ⟨v2, y2, e2, g2⟩ := hg 2 _ rfl
  obtain ⟨v3, y3, e3, g3⟩ := hg 3 _ rfl
  obtain ⟨v4, y4, e4, g4⟩ := hg 4 _ rfl
  obtain ⟨v5, y5, e5, g5⟩ := hg 5 _ rfl
  obtain ⟨v6, y6, e6, g6⟩ := hg 6 _ rfl
  obtain ⟨n0, h0, _⟩ := DataW.trod_int Tryz.underlying3 g0
  obtain ⟨lA, ln, lc, lab, h1, k1⟩ := open_label g1
  obtain ⟨n2, h2, _⟩ := DataW.trod_int Tryz.underlying27 g2
  obtain ⟨n3, h3, _⟩ := DataW.trod_int Tryz.underlying3 g3
  obtain ⟨rA, rn, rc, rows, h4, k4, k5⟩ := open_rows g4
  obtain ⟨n5, h5, _⟩ := DataW.trod_int Tryz.underlying3 g5
  obtain ⟨n6, h6, _⟩ := DataW.trod_int Tryz.underlying29 g6
  injection h0 with h0; injection h1 with h1; injection h2 with h2; injection h3 with h3; injection h4 with h4; injection h5 with h5; injection h6 with h6
  subst h0 h1 h2 h3 h4 h5 h6
  match cs, hl with
  | [a, b, c, d, e, f, g], _ =>
    simp at e0 e1 e2 e3 e4 e5 e6
    subst e0 e1 e2 e3 e4 e5 e6
    exact ⟨⟨n0, lA, ln, lc, lab, n2, n3, rA, rn, rc, rows, n5, n6⟩, rfl, k1, k4, k5⟩

theorem open_replies {fuel : Nat} {cs : List Value} {x : DataW H × List MemPlace} (h : DataW.trod enc Tryz.prog w base spare held fuel 24 cs = some x) :
    ∃ A n c rs, cs = [.slice A n c] ∧ Sl w w.heap.size 7 A n (List.flatMap Rp.cells rs) ∧ ∀ r ∈ rs, r.Ok w w.heap.size :=
  open_sl Rp.cells 7 (by omega) (fun _ => rfl) (fun r => r.Ok w w.heap.size) Tryz.underlying24 (by kernel_rfl) (fun n cs y hl hy => open_reply hl hy) h
end
end Go.Proofs.YtacldkanfjaiiaaGreatDoor
