/- One case and a default, in one goroutine: the region of a select, as a rule of the walk. -/
import Derived.Test.YtacldkanfjaiiaaGreatDoorW
import Derived.Conc.LoneCalls
import Derived.Conc.LoneSelect
namespace Go.Proofs.YtacldkanfjaiiaaGreatDoor
open Go.RowKit Go.Conc

section
variable {P : Program} {a : Act} {w : World}

theorem stepG_comm_any {b : Frame} {k : List Item} {cs : List Frame} {ops : Array Oper} {i : Nat} {rest : List Nat} {o : Oper} {cases : Array CommCase} {blocking : Bool} {shape : CommShape} {w' : World} (ho : ops[i]? = some o) (hw : Region.wanted o (yielded ops a.tmps) = true)
    (hr : (execOp a.eval o).run P w = .ok (.comm cases blocking shape) w') :
    ∃ es, stepG P true (G (b.at a (.inRegion ops (i :: rest) :: k)) cs) w = .comm (G (b.at a (.inRegion ops (i :: rest) :: k)) cs) cases blocking shape w' es := by
  have hg := stepG_op (P := P) (b := b) (k := k) (cs := cs) (w := w) (rest := rest) ho hw
  unfold G
  rw [hg]
  simp [stepG.apply, hr, GStep.after]

/-- the value of a select, and what goes on behind it -/
theorem wp_region_sel {Q : Exit → Act → World → Prop} {id : Nat} {o : Oper} {l : List Oper} {cases : Array CommCase} {w1 : World} {v : Value}
    (hg : o.guard = none) (hr : (execOp a.eval o).run P w = .ok (.comm cases false .select) w)
    (hstep : ∀ (fr : Frame) (cs : List Frame) (es : Array Event), stepG P true (G fr cs) w = .comm (G fr cs) cases false .select w es → step P (solo (G fr cs) w) = .next (solo (G (fr.finish v) cs) w1))
    (h : wpList P (o :: l).toArray Q l (a.put o.dst v) w1) : (Code.region id (o :: l).toArray false).wp P Q a w := by
  intro b k cs
  have hw : Region.wanted o (yielded (o :: l).toArray a.tmps) = true := by simp [Region.wanted, hg]
  have e1 : List.range (o :: l).toArray.size = 0 :: List.range' 1 l.length := by
    simp [List.range_eq_range', List.range'_succ]
  have h2 : wpOps P (o :: l).toArray Q (List.range' 1 l.length) (a.put o.dst v) w1 := by
    rw [wpOps_eq_wpList (ops := (o :: l).toArray) (Q := Q) (P := P) l 1 (fun j => by simp [Nat.add_comm 1 j])]
    exact h
  obtain ⟨e, a', w', hq, harr⟩ := wp_ops _ _ _ h2 b k cs
  refine ⟨e, a', w', hq, .of_steps ?_ harr⟩
  obtain ⟨es, hs⟩ := stepG_comm_any (P := P) (b := b) (k := k) (cs := cs) (rest := List.range' 1 l.length) (ops := (o :: l).toArray) (i := 0) (o := o) (by simp) hw hr
  have hs2 := hstep _ _ _ hs
  rw [Frame.finish_at] at hs2
  refine .head step_region ?_
  rw [e1]
  exact .one hs2

theorem wp_select_empty {Q : Exit → Act → World → Prop} {id : Nat} {o : Oper} {l : List Oper} {c cap s r : Nat} {tm : Bool} {z : Value}
    (hg : o.guard = none) (hr : (execOp a.eval o).run P w = .ok (.comm #[rcase c z] false .select) w) (hc : w.heap[c]? = some (.chan cap #[] false s r tm))
    (h : wpList P (o :: l).toArray Q l (a.put o.dst (.tuple #[goInt (-1), .bool false, z])) w) : (Code.region id (o :: l).toArray false).wp P Q a w :=
  wp_region_sel hg hr (fun _ _ _ hs => step_lone_select_default hs hc) h

theorem wp_select_recv {Q : Exit → Act → World → Prop} {id : Nat} {o : Oper} {l : List Oper} {c cap s r : Nat} {tm closed : Bool} {z : Value} {buf : Array Value}
    (hg : o.guard = none) (hr : (execOp a.eval o).run P w = .ok (.comm #[rcase c z] false .select) w) (hc : w.heap[c]? = some (.chan cap buf closed s r tm)) (hs : 0 < buf.size)
    (h : wpList P (o :: l).toArray Q l (a.put o.dst (.tuple #[goInt 0, .bool true, buf.getD 0 undef])) (w.setChan c cap (buf.extract 1 buf.size) closed s (r + 1) tm)) : (Code.region id (o :: l).toArray false).wp P Q a w :=
  wp_region_sel hg hr (fun _ _ _ h1 => step_lone_select_recv_buf h1 hc hs) h

theorem wp_select_send {Q : Exit → Act → World → Prop} {id : Nat} {o : Oper} {l : List Oper} {c cap s r : Nat} {tm : Bool} {v z : Value} {buf : Array Value}
    (hg : o.guard = none) (hr : (execOp a.eval o).run P w = .ok (.comm #[scase c v z] false .select) w) (hc : w.heap[c]? = some (.chan cap buf false s r tm)) (hs : buf.size < cap)
    (h : wpList P (o :: l).toArray Q l (a.put o.dst (.tuple #[goInt 0, .bool false])) (w.setChan c cap (buf.push v) false (s + 1) r tm)) : (Code.region id (o :: l).toArray false).wp P Q a w :=
  wp_region_sel hg hr (fun _ _ _ h1 => step_lone_select_send_room h1 hc hs) h
end
end Go.Proofs.YtacldkanfjaiiaaGreatDoor
