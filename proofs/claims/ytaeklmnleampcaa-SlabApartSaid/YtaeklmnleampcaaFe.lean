/- Walks of Bytes and of the reference's Bytes. -/
import Derived.Test.YtaeklmnleampcaaFd
import Derived.Deep.RegionHeld3
namespace Go.Proofs.Ytaeklmnleampcaa
open Go.RowKit

def codeB {α : Type} (o : Option α) : Int := if o.isSome = true then 0 else 81

theorem bytesS_long {ms : List MoveT} (h : ¬ ms.length ≤ 4096) : bytesS ms = none := by
  unfold bytesS; rw [if_neg (fun h2 => h h2.1)]

theorem bytesS_bad {ms : List MoveT} {k : Nat} (hk : k < ms.length) (h : okM ms[k] = false) : bytesS ms = none := by
  unfold bytesS
  rw [if_neg]
  rintro ⟨_, h2⟩
  have := List.all_eq_true.1 h2 _ (List.getElem_mem hk)
  rw [h] at this
  cases this

theorem bytesS_all {ms : List MoveT} (h : ms.length ≤ 4096) (hok : ∀ k (hk : k < ms.length), okM ms[k] = true) : bytesS ms = some (ms.flatMap encM) := by
  unfold bytesS
  rw [if_pos ⟨h, List.all_eq_true.2 fun x hx => by
    obtain ⟨k, hk, rfl⟩ := List.getElem_of_mem hx
    exact hok k hk⟩]

theorem enc_take {ms : List MoveT} {k : Nat} (h : k < ms.length) : (ms.take (k + 1)).flatMap encM = (ms.take k).flatMap encM ++ encM ms[k] := by
  rw [List.take_succ_eq_append_getElem h, List.flatMap_append]; simp

theorem enc_wf {ms : List MoveT} (hok : ∀ x ∈ ms, okM x = true) : ∀ y ∈ ms.flatMap encM, (Lit.int .u8 y).wf = true := by
  intro y hy
  obtain ⟨x, hx, hy⟩ := List.mem_flatMap.1 hy
  have g := (singleB_iff _ _).1 (hok x hx)
  simp only [encM, List.mem_cons, List.not_mem_nil, or_false] at hy
  rcases hy with rfl | rfl | rfl | rfl | rfl
  · split <;> exact WalkArith.wf_u8 (by omega)
  all_goals exact WalkArith.wf_u8 (by omega)

/-- A slice has at least the capacity that its length needs. -/
def CapOk (v : Value) : Prop := ∃ a n c, v = .slice a n c ∧ n ≤ c

theorem capOk_nil : CapOk (.slice none 0 0) := ⟨_, _, _, rfl, Nat.le_refl _⟩

theorem capOk_owns {w : World} {base : Nat} {e : TypeId} {size : Nat} {v : Value} {n : Nat} {xs : List Value} (h : w.ownsRow base e size v n xs) : CapOk v := by
  rcases h.2 with ⟨rfl, h0⟩ | ⟨g, cap, cur, rfl, hb, hg, hn, hc, hs, ht⟩
  · exact capOk_nil
  · exact ⟨_, _, _, rfl, by first | omega | assumption⟩

theorem intSl_form {k : IntKind} {w : World} {v : Value} {l : List Int} (h : IntSl k w v l) (hl : l ≠ []) :
    ∃ b o c, v = .slice (some ⟨b, o, none⟩) l.length c ∧ ∀ j u, (l.map (Value.int k))[j]? = some u → w.cell? ((⟨b, o, none⟩ : Addr).add j) = some u := by
  have h' := h
  obtain ⟨ao, cap, rfl, _, _, hc⟩ := h
  obtain ⟨b, o, rfl, _, _⟩ := hc hl
  exact ⟨b, o, cap, rfl, (intSl_news h' (Below.refl _ _)).2⟩

theorem keep_two {w w' : World} {E : Nat} {x y : Value} (hb : Below w.heap.size w w') (h : w.cell? ⟨E, 1, none⟩ = some x) (h' : w.cell? ⟨E, 2, none⟩ = some y) :
    w'.cell? ⟨E, 1, none⟩ = some x ∧ w'.cell? ⟨E, 2, none⟩ = some y :=
  ⟨(hb.cell (p := ⟨E, 1, none⟩) (block_lt_of_cell h)).trans h, (hb.cell (p := ⟨E, 2, none⟩) (block_lt_of_cell h')).trans h'⟩

theorem three_new (w : World) (x y z : Value) (t : TypeId) : ((w.alloc (.cells #[x, y, z] t)).cell? ⟨w.heap.size, 0, none⟩ = some x ∧ (w.alloc (.cells #[x, y, z] t)).cell? ⟨w.heap.size, 1, none⟩ = some y ∧ (w.alloc (.cells #[x, y, z] t)).cell? ⟨w.heap.size, 2, none⟩ = some z) ∧ w.heap.size < (w.alloc (.cells #[x, y, z] t)).heap.size :=
  ⟨⟨World.cell?_alloc_at _ _ _ _ rfl, World.cell?_alloc_at _ _ _ _ rfl, World.cell?_alloc_at _ _ _ _ rfl⟩, by simp⟩

theorem three_old {w w' : World} {x y z : Value} {t : TypeId} (hb : Below (w.alloc (.cells #[x, y, z] t)).heap.size (w.alloc (.cells #[x, y, z] t)) w') : (w'.cell? ⟨w.heap.size, 0, none⟩ = some x ∧ w'.cell? ⟨w.heap.size, 1, none⟩ = some y ∧ w'.cell? ⟨w.heap.size, 2, none⟩ = some z) ∧ w.heap.size < w'.heap.size :=
  have h := three_new w x y z t
  ⟨⟨(hb.cell (p := ⟨_, 0, none⟩) h.2).trans h.1.1, (hb.cell (p := ⟨_, 1, none⟩) h.2).trans h.1.2.1, (hb.cell (p := ⟨_, 2, none⟩) h.2).trans h.1.2.2⟩, Nat.lt_of_lt_of_le h.2 hb.size⟩

theorem three_drew {w w' : World} {x y z : Value} {t : TypeId} (hb : Below (w.alloc (.cells #[x, y, z] t)).drew.heap.size (w.alloc (.cells #[x, y, z] t)).drew w') : (w'.cell? ⟨w.heap.size, 0, none⟩ = some x ∧ w'.cell? ⟨w.heap.size, 1, none⟩ = some y ∧ w'.cell? ⟨w.heap.size, 2, none⟩ = some z) ∧ w.heap.size < w'.heap.size :=
  three_old ((Below.refl _ _).drew.trans hb)

theorem chain1 {w4 w5 w6 : World} {o : Obj} (hb5 : Below w4.drew.heap.size w4.drew w5) (hb6 : Below (w5.alloc o).heap.size (w5.alloc o) w6) : Below w4.heap.size w4 w6 := by
  have h1 : Below w4.heap.size w4 w5 := (Below.refl _ _).drew.trans hb5
  have h2 := h1.alloc h1.size o
  exact Below.step h2 h2.size hb6

theorem chain2 {w4 w5 w6 : World} {o : Obj} (hb5 : Below (w4.alloc o).drew.heap.size (w4.alloc o).drew w5) (hb6 : Below w5.heap.size w5 w6) : Below w4.heap.size w4 w6 := by
  have h0 : Below w4.heap.size w4 (w4.alloc o) := (Below.refl _ _).alloc (Nat.le_refl _) o
  have h1 : Below w4.heap.size w4 w5 := Below.step h0 h0.size ((Below.refl _ _).drew.trans hb5)
  exact Below.step h1 h1.size hb6

/-- put_122, its numbers in a block that is known. -/
theorem put_at (t s n b c : Nat) (ht : t ≤ 1) (hs : s < 4096) (hn : n ≤ 4096) (w : World) (hb : IntSl .i64 w (.slice (some ⟨b, 0, none⟩) 3 3) [1, 2, 2])
    (hc : (w.cell? ⟨c, 0, none⟩ = some (.int .u64 t) ∧ w.cell? ⟨c, 1, none⟩ = some (.int .u64 s) ∧ w.cell? ⟨c, 2, none⟩ = some (.int .u64 n)) ∧ c < w.heap.size) :
    Calls Try.prog 86 #[.slice (some ⟨b, 0, none⟩) 3 3, .slice (some ⟨c, 0, none⟩) 3 3] w fun e w' => ∃ r, e = .returned (.tuple #[r, .int .i64 0]) ∧ IntSl .u8 w' r [(t : Int), (s : Int) % 256, (s : Int) / 256, (n : Int) % 256, (n : Int) / 256] ∧ Below w.heap.size w w' :=
  put_122 b c t s n ht hs hn w hb hc.1 hc.2

set_option maxRecDepth 100000 in
set_option maxHeartbeats 8000000 in
theorem bytes_any (u : Value) (ms : List MoveT) (w : World) (hu : MoveSl w u ms) :
    Calls Try.prog 71 #[u] w fun e w' => ∃ r, e = .returned (.tuple #[r, .int .i64 (codeB (bytesS ms))]) ∧ IntSl .u8 w' r ((bytesS ms).getD []) ∧ CapOk r ∧ Below w.heap.size w w' := by
  obtain ⟨i0, hi, hz0, hz1', hz2⟩ := info_parts Try.info5
  obtain ⟨uo, ucap, rfl, hulen, huw, huc⟩ := hu
  have HU := Lib.hid huc; clear huc
  have HW := Lib.hid huw; clear huw
  obtain ⟨S, hS⟩ : ∃ S, S = bytesS ms := ⟨_, rfl⟩
  rw [← hS]
  have HS := Lib.hid hS; clear hS
  have hB0 := Below.refl w.heap.size w
  by_cases hlong : ¬ ms.length ≤ 4096
  · have HN : Hid (S = none) := by unfold Hid; rw [HS.out, bytesS_long hlong]
    have hl : (4096 : Int) < (ms.length : Int) := by omega
    go_enter Try.func71, Try.ntmps71
    go_wp2
    refine bodyPost_ret (v := .tuple #[.slice none 0 0, .int .i64 81]) (by simp [results, Try.results71, go_sem]) rfl ⟨_, by rw [HN.out]; rfl, by rw [HN.out]; exact intSl_nil _ _, capOk_nil, hB0⟩
  have hl4 : ms.length ≤ 4096 := by omega
  have hl : ¬ (4096 : Int) < (ms.length : Int) := by omega
  clear hlong
  go_enter Try.func71, Try.ntmps71
  go_wp2_with (refine wpList_make_own (o := ⟨some 16, _, _, _, _, _⟩) _ rfl _ _ 86 rfl w.heap.size 5 i0 (.int .u8 0) 1 Try.underlying86 hi hz0 hz1' .i64 .i64 _ (5 * ms.length) rfl rfl (by omega) (by rw [hz2]; omega) (by unfold maxLen; omega) (Nat.le_refl _) ?_; intro w2 hown2 hgrow2)
  have hB2 : Below w.heap.size w w2 := (Below.refl _ _).grown hgrow2 (Nat.le_refl _) (fun k e => by cases e)
  clear hgrow2
  go_loopw [4, 19] (fun v i wr => ∃ (k : Nat), k ≤ ms.length ∧ i = .int .i64 k ∧ wr.ownsRow w.heap.size 5 1 v ((ms.take k).flatMap encM).length (((ms.take k).flatMap encM).map (Value.int .u8)) ∧ Hid (∀ j (hj : j < ms.length), j < k → okM ms[j] = true) ∧ Below w.heap.size w wr)
    (fun _ i _ => ms.length - (intOf i).toNat)
  case atStart => exact ⟨0, Nat.zero_le _, rfl, hown2, fun j hj h => absurd h (Nat.not_lt_zero _), hB2⟩
  case round =>
    clear hown2 hB2
    obtain ⟨k, hk, rfl, hown, HOK, hbel⟩ := hrel
    have hsz := hbel.size
    by_cases hlt : k < ms.length
    · obtain ⟨b, o, rfl, hbs, hcell⟩ := HU.out (by intro h; simp [h] at hlt)
      obtain ⟨h1, h2, h3⟩ := move_cells hbs hcell hbel hlt
      clear hcell
      have hw := HW.out _ (List.getElem_mem hlt)
      have HT : Hid ((ms.take (k + 1)).flatMap encM = (ms.take k).flatMap encM ++ encM ms[k]) := enc_take hlt
      have HBAD : Hid (okM ms[k] = false → S = none) := fun h => by rw [HS.out, bytesS_bad hlt h]
      have HGOOD : Hid (okM ms[k] = true → ∀ j (hj : j < ms.length), j < k + 1 → okM ms[j] = true) := by
        intro h j hj hjk
        by_cases hjk2 : j = k
        · subst hjk2; exact h
        · exact HOK.out j hj (by omega)
      obtain ⟨⟨t, s, n⟩, hx⟩ : ∃ x, x = ms[k] := ⟨_, rfl⟩
      rw [← hx] at h1 h2 h3 hw HT HBAD HGOOD
      clear hx
      simp only at h1 h2 h3 hw
      have HWW := Lib.hid hw; clear hw
      obtain ⟨c, hc⟩ : ∃ c, singleB s n = c := ⟨_, rfl⟩
      have HC := Lib.hid hc; clear hc
      obtain ⟨L, hL⟩ : ∃ L, L = (ms.take k).flatMap encM := ⟨_, rfl⟩
      rw [← hL] at hown HT
      have hLlen : L.length = 5 * k := by rw [hL, enc_length, List.length_take]; omega
      clear hL
      have HLL := Lib.hid hLlen; clear hLlen
      go_wp2_with fail
      obtain ⟨We, hWe⟩ : ∃ W0, W0 = wr.alloc (.cells #[.bool t, .int .i64 s, .int .i64 n] 99) := ⟨_, rfl⟩
      have p0 : We.cell? ⟨wr.heap.size, 0, none⟩ = some (.bool t) := by rw [hWe]; exact World.cell?_alloc_at _ _ _ _ rfl
      have p1 : We.cell? ⟨wr.heap.size, 1, none⟩ = some (.int .i64 s) := by rw [hWe]; exact World.cell?_alloc_at _ _ _ _ rfl
      have p2 : We.cell? ⟨wr.heap.size, 2, none⟩ = some (.int .i64 n) := by rw [hWe]; exact World.cell?_alloc_at _ _ _ _ rfl
      have hse : We.heap.size = wr.heap.size + 1 := by rw [hWe]; simp
      have hBe : Below w.heap.size w We := by rw [hWe]; exact hbel.alloc hsz _
      have howe := hown.alloc (.cells #[.bool t, .int .i64 s, .int .i64 n] 99)
      rw [← hWe] at howe
      rw [← hWe]
      clear hWe hbel hown h1 h2 h3
      obtain ⟨E, hE⟩ : ∃ E, E = wr.heap.size := ⟨_, rfl⟩
      rw [← hE] at p0 p1 p2 hse hsz ⊢
      clear hE
      refine (mright_any t s n HWW.out _).mono ?_
      rw [HC.out]
      rintro e w4 ⟨rfl, hb4⟩
      have hB4 := Below.step hBe hBe.size hb4
      have how4 := owns_below howe hb4
      have q0 := (hb4.cell (p := ⟨E, 0, none⟩) (by show E < We.heap.size; omega)).trans p0
      have q1 := (hb4.cell (p := ⟨E, 1, none⟩) (by show E < We.heap.size; omega)).trans p1
      have q2 := (hb4.cell (p := ⟨E, 2, none⟩) (by show E < We.heap.size; omega)).trans p2
      have hs4 := hb4.size
      clear p0 p1 p2 hBe howe hb4
      cases c with
      | false =>
        have HN : Hid (S = none) := HBAD.out HC.out
        go_wp2
        refine bodyPost_ret (v := .tuple #[.slice none 0 0, .int .i64 81]) (by simp [results, Try.results71, go_sem]) rfl ⟨_, by rw [HN.out]; rfl, by rw [HN.out]; exact intSl_nil _ _, capOk_nil, hB4⟩
      | true =>
        obtain ⟨g1, g2, g3, g4⟩ := (singleB_iff s n).1 HC.out
        obtain ⟨a, rfl⟩ : ∃ a : Nat, s = (a : Int) := ⟨s.toNat, by omega⟩
        obtain ⟨m, rfl⟩ : ∃ a : Nat, n = (a : Int) := ⟨n.toNat, by omega⟩
        have hEl : E < w4.heap.size := by omega
        have wu1 : IntKind.u64.wrap (a : Int) = (a : Int) := IntWalk.u64_in _ (by omega)
        have wu2 : IntKind.u64.wrap (m : Int) = (m : Int) := IntWalk.u64_in _ (by omega)
        have hA : a < 4096 := by omega
        have hM : m ≤ 4096 := by omega
        have h0T : (0 : Nat) ≤ 1 := by decide
        have h1T : (1 : Nat) ≤ 1 := by decide
        have hne1 := World.new_ne w4 ⟨E, 1, none⟩ q1
        have hne2 := World.new_ne w4 ⟨E, 2, none⟩ q2
        have HGD := Lib.hid (HGOOD.out HC.out)
        cases t
        all_goals
          go_wp2_with fail
          go_region_held3 (fun W => W.cell? ⟨E, 1, none⟩ = some (.int .i64 (a : Int)) ∧ W.cell? ⟨E, 2, none⟩ = some (.int .i64 (m : Int)))
            (first
              | go_keep
              | (go_split_ands; exact keep_two hb6 (by assumption) (by assumption))
              | (go_split_ands; exact keep_two hb5 (by assumption) (by assumption))
              | (go_split_ands; exact keep_two ((Below.refl _ _).alloc (Nat.le_refl _) _) (by assumption) (by assumption)))
            (first
              | (go_at_call 87; refine (widths_any _).mono ?_; rintro e w5 ⟨b5, rfl, hv5, -, hb5⟩)
              | (go_at_call 86; refine (put_at 0 a m _ _ h0T hA hM _ ?_ ?_).mono ?_; (first | exact hv5 | exact hv5.below ((Below.refl _ _).alloc (Nat.le_refl _) _)); (first | exact three_new _ _ _ _ _ | exact three_drew hb5); rintro e w6 ⟨r6, rfl, hr6, hb6⟩)
              | (go_at_call 86; refine (put_at 1 a m _ _ h1T hA hM _ ?_ ?_).mono ?_; (first | exact hv5 | exact hv5.below ((Below.refl _ _).alloc (Nat.le_refl _) _)); (first | exact three_new _ _ _ _ _ | exact three_drew hb5); rintro e w6 ⟨r6, rfl, hr6, hb6⟩))
          all_goals
            have h46 : Below w4.heap.size w4 w6 := by first | exact chain1 hb5 hb6 | exact chain2 hb5 hb6
            have hB6 := Below.step hB4 hB4.size h46
            have how6 := owns_below how4 h46
            clear hb5 hb6 hv5 h46
            first
              | (have hr7 : IntSl .u8 w6 r6 (encM (false, (a : Int), (m : Int))) := hr6
                 generalize hN : encM (false, (a : Int), (m : Int)) = N at hr7 HT
                 have HNL : Hid (N.length = 5) := by rw [← hN]; rfl)
              | (have hr7 : IntSl .u8 w6 r6 (encM (true, (a : Int), (m : Int))) := hr6
                 generalize hN : encM (true, (a : Int), (m : Int)) = N at hr7 HT
                 have HNL : Hid (N.length = 5) := by rw [← hN]; rfl)
            clear hr6 hN
            obtain ⟨rb, ro, rc, rfl, hnews⟩ := intSl_form hr7 (by intro h; have := HNL.out; simp [h] at this)
            clear hr7
            have HNEWS := Lib.hid hnews; clear hnews
            have hone : ∀ u ∈ N.map (Value.int .u8), u.oneCell' = true := by simp [Value.oneCell']
            have HONE := Lib.hid hone; clear hone
            have hb1 : L.length + N.length ≤ maxLen := by have := HLL.out; have := HNL.out; unfold maxLen; omega
            have hb2 : (L.length + N.length) * 1 ≤ 140737488355328 := by have := HLL.out; have := HNL.out; omega
            have HB1 := Lib.hid hb1; clear hb1
            have HB2 := Lib.hid hb2; clear hb2
            have hz6 := hB6.size
            go_wp2_with (first | (at_builtin; refine wpList_append_own _ rfl (.tmp 45) (.tmp 46) 86 rfl w.heap.size 5 i0 (.int .u8 0) 1 1 Try.underlying86 hi hz0 hz1' hz2 rfl (by decide) _ _ _ rfl how6 ⟨rb, ro, none⟩ N.length rc (N.map (Value.int .u8)) rfl (by simp) HNEWS.out HONE.out HB1.out HB2.out hz6 ?_; intro v7 w7 hown7 hgrow7 _))
            have hB7 := hB6.grown hgrow7 hz6 (fun j h => (how6.lt j h).1)
            clear hgrow7
            go_roundw
            case rel =>
              refine ⟨k + 1, by omega, by go_num, ?_, HGD.out, hB7⟩
              rw [HT.out, List.length_append, List.map_append]
              exact hown7
            case measure => simp [intOf]; omega
    · obtain rfl : k = ms.length := by omega
      have HALL : Hid (S = some (ms.flatMap encM)) := by unfold Hid; rw [HS.out, bytesS_all hl4 (fun j hj => HOK.out j hj hj)]
      rw [List.take_length] at hown
      have hok : ∀ x ∈ ms, okM x = true := by
        intro x hx
        obtain ⟨j, hj, rfl⟩ := List.getElem_of_mem hx
        exact HOK.out j hj hj
      have hfin := intSl_of_owns hown (enc_wf hok) (by rw [enc_length]; omega)
      have hcap := capOk_owns hown
      have HFIN := Lib.hid hfin; clear hfin hown hok
      have HCAP := Lib.hid hcap; clear hcap
      go_wp2
      refine bodyPost_ret (v := .tuple #[u4, .int .i64 0]) (by simp [results, Try.results71, go_sem]) rfl ⟨_, by rw [HALL.out]; rfl, by rw [HALL.out]; exact HFIN.out, HCAP.out, hbel⟩

end Go.Proofs.Ytaeklmnleampcaa
