/- The iterator span.each: its contract: it hands out the numbers of a set, rising, whatever the loop's body does to its own memory. -/
import Derived.Test.YtaeklmnleampcaaWa
import Derived.RangeFuncNested
import Derived.RangeFuncBound
import Derived.RangeFuncCalls
import Derived.RangeFuncLeaves
import Derived.RangeFuncBox
import Derived.Shelf.Abstract
import Derived.Shelf.RegionOpen
import Derived.OwnWalkIn
import Derived.TacticsInMore
import Derived.LoopNIn
import Derived.LoopIn
import Derived.Maps.AppendAt
namespace Go.Proofs.Ytaeklmnleampcaa
open Go.RowKit Go.Shelf

attribute [local go_sem] Oper.semAt_some

/-- What a round keeps: what lay below n0, and each row of cells from n1 on (the iterator's own). -/
structure Kept (n0 n1 : Nat) (W W' : World) : Prop where
  below : Below n0 W W'
  rows : ∀ (k : Nat) (o : Obj), n1 ≤ k → W.heap[k]? = some o → o.isCells = true → W'.heap[k]? = some o

theorem Kept.trans {n0 n1 : Nat} {A B C : World} (h : Kept n0 n1 A B) (k : Kept n0 n1 B C) : Kept n0 n1 A C :=
  ⟨h.below.trans k.below, fun i o hi ho hc => k.rows i o hi (h.rows i o hi ho hc) hc⟩

theorem Kept.book {n0 n1 : Nat} {w : World} (hn : n0 ≤ w.heap.size) (W : World) (l : Nat) (o o' : Obj) (hl : w.heap.size ≤ l) (ho : W.heap[l]? = some o) (hc : o.isCells = false) (hw : o.isWalk = false) : Kept n0 n1 W (W.putObj l o') :=
  ⟨belowK_b hn W l o o' hl ho hc hw, fun k p _ hp hpc => (World.putObj_heap_other (fun e => by subst e; rw [ho] at hp; cases hp; rw [hc] at hpc; cases hpc)).trans hp⟩

theorem Kept.cell {n0 n1 : Nat} {W W' : World} (h : Kept n0 n1 W W') {a : Addr} {v : Value} (ha : n1 ≤ a.block) (hc : W.cell? a = some v) : W'.cell? a = some v := by
  obtain ⟨o, ho, hoc⟩ := cells_of_cell hc
  exact (World.cell?_of_block ((h.rows _ o ha ho hoc).trans ho.symm)).trans hc

/-- A body that stores into a block of its own, between n0 and n1. -/
theorem Kept.setCell {n0 n1 : Nat} {W : World} {a : Addr} (v : Value) (h0 : n0 ≤ a.block) (h1 : a.block < n1) : Kept n0 n1 W (W.setCell a v) :=
  ⟨(Below.refl n0 W).setCell h0 v, fun k o hk ho _ => (heap_setCell_other W a k v (by omega)).trans ho⟩

theorem Kept.refl (n0 n1 : Nat) (W : World) : Kept n0 n1 W W := ⟨Below.refl _ _, fun _ _ _ h _ => h⟩

theorem abides_below {J : List (Fin 4096) → World → Prop} {B : Nat} (hJ : AbidesFrom B J) {s : List (Fin 4096)} {W W' : World} (h : J s W) (hb : Below W.heap.size W W') : J s W' :=
  hJ s W W' none h ⟨hb.os, hb.tape, hb.output, hb.size, fun k hk _ => hb.block k hk⟩ (fun r e => by cases e)

theorem wide_no {n : Nat} : Fence.wide.depth.isSome = true → 1 ≤ n := fun h => by cases h

set_option maxRecDepth 100000 in
set_option maxHeartbeats 2000000 in
/-- each's closure: for every loop body that keeps its word. -/
theorem each1_in (n : Nat) (lp Bs n0 n1 : Nat) (v : Value) (l : List (Int × Int)) (w0 : World) (hv : SpanSl w0 v l) (hn0 : n0 = w0.heap.size) (J Jx : List (Fin 4096) → World → Prop) (W : World)
    (hn1 : n1 ≤ W.heap.size) (hJ : AbidesFrom W.heap.size J)
    (hY : ∀ pre x W1, J pre W1 → pre.length < (seqOf l).length → YieldAt Fence.wide (n - 1) Try.prog lp #[.int .i64 ((x : Fin 4096).val : Int)] W1 fun e W' =>
      (e = .returned (.bool true) ∧ J (pre ++ [x]) W' ∧ Kept n0 n1 W1 W') ∨ (e = .returned (.bool false) ∧ Jx (pre ++ [x]) W'))
    (hbel0 : Below n0 w0 W) (hBs : W.cell? ⟨Bs, 0, none⟩ = some v) (h0 : J [] W) :
    CallsIn Fence.wide n Try.prog 90 #[.func (.yield lp) #[] #[], .pointer (some ⟨Bs, 0, none⟩)] W fun e W' => (∃ u, e = .returned u) ∧
      ((∃ ys, ys = seqOf l ∧ J ys W') ∨ (∃ pre, pre <+: seqOf l ∧ Jx pre W')) := by
  subst hn0
  have hvW : SpanSl W v l := hv.below hbel0
  obtain ⟨ao, cap, rfl, hlen, hb, hc⟩ := hv
  have HC := Lib.hid hc; clear hc
  have HB := Lib.hid hb; clear hb
  have HY := Lib.hid hY; clear hY
  have HJ := Lib.hid hJ; clear hJ
  have hBl : Bs < W.heap.size := block_lt_of_cell hBs
  refine callsIn_of_wp Try.func90 rfl trivial ?_ rfl
  simp only [Try.ntmps90, List.size_toArray, List.length_cons, List.length_nil, Nat.reduceAdd, Nat.reduceSub, Array.replicate_succ, Array.replicate_zero, List.push_toArray, List.append_toArray, List.nil_append, List.cons_append]
  by_cases hr : rightB l = true
  · have HR := Lib.hid hr
    clear hr
    gi_wp2_with ((refine ⟨trivial, wide_no, ?_⟩; gi_at_call 25; refine (callsIn_wide.2 (right_is true _ _ HR.out _ hvW)).mono ?_; rintro e w1 ⟨rfl, hb1⟩; have hBs1 := (hb1.cell (p := ⟨Bs, 0, none⟩) hBl).trans hBs))
    gi_loopw [11] (fun i wr => ∃ k : Nat, k ≤ l.length ∧ i = .int .i64 k ∧ J ((seqOf l).take (aheadN l k)) wr ∧ Below w0.heap.size w0 wr ∧ w1.heap.size ≤ wr.heap.size)
      (fun i _ => l.length - (intOf i).toNat)
    case atStart => exact ⟨0, Nat.zero_le _, rfl, by rw [aheadN_zero]; exact abides_below HJ.out h0 hb1, Below.step hbel0 hbel0.size hb1, Nat.le_refl _⟩
    case round =>
      obtain ⟨k, hk, rfl, hJs, hnx, hsz⟩ := hrel
      by_cases hlt : k < l.length
      · obtain ⟨b, o, rfl, hbs, hcell⟩ := HC.out (by intro h; simp [h] at hlt)
        obtain ⟨h1, h2⟩ := span_cells hbs hcell hnx hlt
        clear hcell
        have hbb := HB.out l[k] (List.getElem_mem _)
        unfold inI64 at hbb
        have hs1 := (singleB_iff _ _).1 (right_at HR.out hlt)
        have HAS := Lib.hid (aheadN_succ hlt)
        have hsz0 := hnx.size
        have hb1s := hb1.size
        gi_wp2
        obtain ⟨WR, hWR⟩ : ∃ WR, WR = wr.alloc (.cells #[.int .i64 l[k].1, .int .i64 l[k].2] 51) := ⟨_, rfl⟩
        have hWc : WR.cell? ⟨wr.heap.size, 0, none⟩ = some (.int .i64 l[k].1) := by rw [hWR]; exact World.cell?_alloc_at _ _ _ _ rfl
        have hWs : wr.heap.size < WR.heap.size := by rw [hWR]; simp
        have hJW : J ((seqOf l).take (aheadN l k)) WR := by rw [hWR]; exact abides_below HJ.out hJs ((Below.refl _ _).alloc (Nat.le_refl _) _)
        have hnW : Below w0.heap.size w0 WR := by rw [hWR]; exact hnx.alloc hsz0 _
        rw [← hWR]
        clear hWR
        obtain ⟨wo, rfl⟩ : ∃ wo : World, wo = wr := ⟨_, rfl⟩
        gi_loopw [17] (fun i w2 => ∃ j : Nat, (j : Int) ≤ l[k].2 ∧ i = .int .i64 j ∧ J ((seqOf l).take (aheadN l k + j)) w2 ∧ Below w0.heap.size w0 w2 ∧ WR.heap.size ≤ w2.heap.size ∧ w2.cell? ⟨wo.heap.size, 0, none⟩ = some (.int .i64 l[k].1))
          (fun i _ => l[k].2.toNat - (intOf i).toNat)
        case atStart => exact ⟨0, by omega, rfl, hJW, hnW, Nat.le_refl _, hWc⟩
        case round =>
          obtain ⟨j, hj, rfl, hJ2, hn2, hs2, hc2⟩ := hrel
          by_cases hjl : (j : Int) < l[k].2
          · obtain ⟨x, hx, hxl, hxt⟩ := seqOf_at HR.out hlt (j := j) (by omega)
            obtain ⟨fn, tmps, assign, body, hy, hRd⟩ := HY.out _ x _ hJ2 (by rw [List.length_take]; omega)
            rw [hx] at hy
            have HX := Lib.hid hx; clear hx
            have HT := Lib.hid hxt; clear hxt
            gi_wp2
            refine ⟨wide_no, hRd.mono ?_⟩
            rintro e W3 (⟨rfl, hJ3, hk3⟩ | ⟨rfl, hJx3⟩)
            · have hc3 := hk3.cell (a := ⟨wo.heap.size, 0, none⟩) (by show n1 ≤ wo.heap.size; omega) hc2
              have hk3s := hk3.below.size
              gi_wp2
              go_roundw
              case rel => exact ⟨j + 1, by omega, by go_num, by rw [← HT.out]; exact hJ3, hn2.trans hk3.below, by omega, hc3⟩
              case measure => simp [intOf]; omega
            · gi_wp2
              refine bodyPost_ret (results_none rfl _ _ _) rfl ?_
              exact ⟨⟨_, rfl⟩, .inr ⟨_, by rw [HT.out]; exact List.take_prefix _ _, hJx3⟩⟩
          · have hJe : J ((seqOf l).take (aheadN l (k + 1))) wr := by rw [HAS.out, show l[k].2.toNat = j from by omega]; exact hJ2
            gi_wp2
            go_roundw
            case rel => exact ⟨k + 1, by omega, by go_num, hJe, hn2, by omega⟩
            case measure => simp [intOf]; omega
      · gi_wp2
        refine bodyPost_end (results_none rfl _ _ _) rfl ?_
        exact ⟨⟨_, rfl⟩, .inl ⟨_, rfl, by
          have h := hJs
          rw [aheadN_all l (by omega), List.take_of_length_le (by rw [seqOf_right HR.out, List.length_map]; exact Nat.le_refl _)] at h
          exact h⟩⟩
  · have HR := Lib.hid (show rightB l = false by simpa using hr)
    clear hr
    gi_wp2_with ((refine ⟨trivial, wide_no, ?_⟩; gi_at_call 25; refine (callsIn_wide.2 (right_is false _ _ HR.out _ hvW)).mono ?_; rintro e w1 ⟨rfl, hb1⟩))
    refine bodyPost_ret (results_none rfl _ _ _) rfl ?_
    exact ⟨⟨_, rfl⟩, .inl ⟨_, rfl, by rw [seqOf_wrong HR.out]; exact abides_below HJ.out h0 hb1⟩⟩


/-- The iterator's value: its box holds a slice of spans that lay when the caller began. -/
theorem each_stops (n : Nat) (Bs : Nat) (v : Value) (l : List (Int × Int)) (w0 w : World) (hv : SpanSl w0 v l) (hb : Below w0.heap.size w0 w) (hBs : w.cell? ⟨Bs, 0, none⟩ = some v) :
    SeqStopsK Fence.wide n Try.prog 90 #[.pointer (some ⟨Bs, 0, none⟩)] (fun x : Fin 4096 => #[Value.int .i64 (x.val : Int)]) (Kept w0.heap.size w.heap.size) (fun ys => ys = seqOf l) (fun pre => pre <+: seqOf l) (seqOf l).length w := by
  intro lp J Jx W hW hJ _ hY h0
  exact each1_in n lp Bs w0.heap.size w.heap.size v l w0 hv rfl J Jx W hW.size hJ hY (hb.trans (hW.mono hb.size)) ((hW.cell (p := ⟨Bs, 0, none⟩) (block_lt_of_cell hBs)).trans hBs) h0

set_option maxHeartbeats 1000000 in
/-- each(l): the slice is boxed; the function value captures the box. -/
theorem each_any (a : Option Addr) (len cap : Nat) (w : World) :
    Calls Try.prog 80 #[.slice a len cap] w fun e w' => e = .returned (.func (.func 90) #[] #[.pointer (some ⟨w.heap.size, 0, none⟩)]) ∧ w' = w.alloc (.cells #[.slice a len cap] 22) := by
  go_enter Try.func80, Try.ntmps80
  go_wp2
  go_ret
  exact ⟨rfl, rfl⟩

end Go.Proofs.Ytaeklmnleampcaa
