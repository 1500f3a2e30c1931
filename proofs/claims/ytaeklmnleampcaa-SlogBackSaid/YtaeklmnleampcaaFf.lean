/- Walk of the reference's Bytes. -/
import Derived.Test.YtaeklmnleampcaaFe
namespace Go.Proofs.Ytaeklmnleampcaa
open Go.RowKit

theorem five_cells {w : World} {a b c d f : Value} {t : TypeId} {n : Nat} (hn : n = w.heap.size) : ∀ j u, [a, b, c, d, f][j]? = some u → (w.alloc (.cells #[a, b, c, d, f] t)).cell? ((⟨n, 0, none⟩ : Addr).add j) = some u := by
  subst hn
  intro j u hu
  rw [Addr.add_lit, Nat.zero_add, World.cell?_alloc_at _ _ _ _ rfl, ← Array.getElem?_toList]
  exact hu

set_option maxRecDepth 100000 in
set_option maxHeartbeats 8000000 in
theorem refbytes_any (u : Value) (ms : List MoveT) (w : World) (hu : MoveSl w u ms) :
    Calls Try.prog 72 #[u] w fun e w' => ∃ r, e = .returned (.tuple #[r, .int .i64 (codeB (bytesS ms))]) ∧ IntSl .u8 w' r ((bytesS ms).getD []) ∧ Below w.heap.size w w' := by
  obtain ⟨i0, hi, hz0, hz1', hz2⟩ := info_parts Try.info5
  obtain ⟨uo, ucap, rfl, hulen, huw, huc⟩ := hu
  have HU := Lib.hid huc; clear huc
  have HW := Lib.hid huw; clear huw
  obtain ⟨S, hS⟩ : ∃ S, S = bytesS ms := ⟨_, rfl⟩
  rw [← hS]
  have HS := Lib.hid hS; clear hS
  have hB0 := Below.refl w.heap.size w
  by_cases hlong : ¬ ms.length ≤ 4096
  · have HN : Hid (S = none) := by unfold Hid; rw [HS.out, bytesS_long hlong]
    have hl : (4096 : Int) < (ms.length : Int) := by omega
    go_enter Try.func72, Try.ntmps72
    go_wp2
    refine bodyPost_ret (v := .tuple #[.slice none 0 0, .int .i64 81]) (by simp [results, Try.results72, go_sem]) rfl ⟨_, by rw [HN.out]; rfl, by rw [HN.out]; exact intSl_nil _ _, hB0⟩
  have hl4 : ms.length ≤ 4096 := by omega
  have hl : ¬ (4096 : Int) < (ms.length : Int) := by omega
  clear hlong
  go_enter Try.func72, Try.ntmps72
  obtain ⟨w2, hw2⟩ : ∃ W, W = w.alloc (.cells #[] 5) := ⟨_, rfl⟩
  have hown2 : w2.ownsRow w.heap.size 5 1 (.slice (some ⟨w.heap.size, 0, none⟩) 0 0) 0 [] := by rw [hw2]; exact World.ownsRow_lit (e := 5) (size := 1) (base := w.heap.size) w #[] 0 (Nat.le_refl _) (by simp) rfl
  have hB2 : Below w.heap.size w w2 := by rw [hw2]; exact (Below.refl _ _).alloc (Nat.le_refl _) _
  go_wp2_with fail
  rw [← hw2]
  clear hw2
  go_loopw [4, 14] (fun v i wr => ∃ (k : Nat), k ≤ ms.length ∧ i = .int .i64 k ∧ wr.ownsRow w.heap.size 5 1 v ((ms.take k).flatMap encM).length (((ms.take k).flatMap encM).map (Value.int .u8)) ∧ Hid (∀ j (hj : j < ms.length), j < k → okM ms[j] = true) ∧ Below w.heap.size w wr)
    (fun _ i _ => ms.length - (intOf i).toNat)
  case atStart => exact ⟨0, Nat.zero_le _, rfl, hown2, fun j hj h => absurd h (Nat.not_lt_zero _), hB2⟩
  case round =>
    clear hown2 hB2
    obtain ⟨k, hk, rfl, hown, HOK, hbel⟩ := hrel
    have hsz := hbel.size
    by_cases hlt : k < ms.length
    · obtain ⟨b, o, rfl, hbs, hcell⟩ := HU.out (by intro h; simp [h] at hlt)
      obtain ⟨h1, h2, h3⟩ := move_cells hbs hcell hbel hlt
      clear hcell
      have hw := HW.out _ (List.getElem_mem hlt)
      have HT : Hid ((ms.take (k + 1)).flatMap encM = (ms.take k).flatMap encM ++ encM ms[k]) := enc_take hlt
      have HBAD : Hid (okM ms[k] = false → S = none) := fun h => by rw [HS.out, bytesS_bad hlt h]
      have HGOOD : Hid (okM ms[k] = true → ∀ j (hj : j < ms.length), j < k + 1 → okM ms[j] = true) := by
        intro h j hj hjk
        by_cases hjk2 : j = k
        · subst hjk2; exact h
        · exact HOK.out j hj (by omega)
      obtain ⟨⟨t, s, n⟩, hx⟩ : ∃ x, x = ms[k] := ⟨_, rfl⟩
      rw [← hx] at h1 h2 h3 hw HT HBAD HGOOD
      clear hx
      simp only at h1 h2 h3 hw
      have HWW := Lib.hid hw; clear hw
      obtain ⟨c, hc⟩ : ∃ c, singleB s n = c := ⟨_, rfl⟩
      have HC := Lib.hid hc; clear hc
      obtain ⟨L, hL⟩ : ∃ L, L = (ms.take k).flatMap encM := ⟨_, rfl⟩
      rw [← hL] at hown HT
      have hLlen : L.length = 5 * k := by rw [hL, enc_length, List.length_take]; omega
      clear hL
      have HLL := Lib.hid hLlen; clear hLlen
      go_wp2_with fail
      obtain ⟨We, hWe⟩ : ∃ W0, W0 = wr.alloc (.cells #[.bool t, .int .i64 s, .int .i64 n] 99) := ⟨_, rfl⟩
      have p0 : We.cell? ⟨wr.heap.size, 0, none⟩ = some (.bool t) := by rw [hWe]; exact World.cell?_alloc_at _ _ _ _ rfl
      have p1 : We.cell? ⟨wr.heap.size, 1, none⟩ = some (.int .i64 s) := by rw [hWe]; exact World.cell?_alloc_at _ _ _ _ rfl
      have p2 : We.cell? ⟨wr.heap.size, 2, none⟩ = some (.int .i64 n) := by rw [hWe]; exact World.cell?_alloc_at _ _ _ _ rfl
      have hse : We.heap.size = wr.heap.size + 1 := by rw [hWe]; simp
      have hBe : Below w.heap.size w We := by rw [hWe]; exact hbel.alloc hsz _
      have howe := hown.alloc (.cells #[.bool t, .int .i64 s, .int .i64 n] 99)
      rw [← hWe] at howe
      rw [← hWe]
      clear hWe hbel hown h1 h2 h3
      obtain ⟨E, hE⟩ : ∃ E, E = wr.heap.size := ⟨_, rfl⟩
      rw [← hE] at p0 p1 p2 hse hsz ⊢
      clear hE
      refine (refmright_any t s n HWW.out _).mono ?_
      rw [HC.out]
      rintro e w4 ⟨rfl, hb4⟩
      have hB4 := Below.step hBe hBe.size hb4
      have how4 := owns_below howe hb4
      have q0 := (hb4.cell (p := ⟨E, 0, none⟩) (by show E < We.heap.size; omega)).trans p0
      have q1 := (hb4.cell (p := ⟨E, 1, none⟩) (by show E < We.heap.size; omega)).trans p1
      have q2 := (hb4.cell (p := ⟨E, 2, none⟩) (by show E < We.heap.size; omega)).trans p2
      have hs4 := hb4.size
      clear p0 p1 p2 hBe howe hb4
      cases c with
      | false =>
        have HN : Hid (S = none) := HBAD.out HC.out
        go_wp2
        refine bodyPost_ret (v := .tuple #[.slice none 0 0, .int .i64 81]) (by simp [results, Try.results72, go_sem]) rfl ⟨_, by rw [HN.out]; rfl, by rw [HN.out]; exact intSl_nil _ _, hB4⟩
      | true =>
        obtain ⟨g1, g2, g3, g4⟩ := (singleB_iff s n).1 HC.out
        obtain ⟨a, rfl⟩ : ∃ a : Nat, s = (a : Int) := ⟨s.toNat, by omega⟩
        obtain ⟨m, rfl⟩ : ∃ a : Nat, n = (a : Int) := ⟨n.toNat, by omega⟩
        have HGD := Lib.hid (HGOOD.out HC.out)
        have hone : ∀ (x y z p q : Int), ∀ u ∈ [Value.int .u8 x, .int .u8 y, .int .u8 z, .int .u8 p, .int .u8 q], u.oneCell' = true := by simp [Value.oneCell']
        have HONE := Lib.hid hone; clear hone
        have hb1 : L.length + 5 ≤ maxLen := by have := HLL.out; unfold maxLen; omega
        have hb2 : (L.length + 5) * 1 ≤ 140737488355328 := by have := HLL.out; omega
        have HB1 := Lib.hid hb1; clear hb1
        have HB2 := Lib.hid hb2; clear hb2
        have hz4 := hB4.size
        have wu1 : IntKind.u8.wrap ((a : Int) % 256) = (a : Int) % 256 := IntWalk.u8_in _ (by omega)
        have wu2 : IntKind.u8.wrap ((m : Int) % 256) = (m : Int) % 256 := IntWalk.u8_in _ (by omega)
        have wu3 : IntKind.u8.wrap ((a : Int) / 256) = (a : Int) / 256 := IntWalk.u8_in _ (by omega)
        have wu4 : IntKind.u8.wrap ((m : Int) / 256) = (m : Int) / 256 := IntWalk.u8_in _ (by omega)
        cases t
        case false =>
          go_wp2_with (first | (at_builtin; refine wpList_append_own _ rfl (.tmp 23) (.tmp 45) 86 rfl w.heap.size 5 i0 (.int .u8 0) 1 1 Try.underlying86 hi hz0 hz1' hz2 rfl (by decide) _ _ _ rfl (how4.alloc _) ⟨w4.heap.size, 0, none⟩ 5 5 [.int .u8 0, .int .u8 ((a : Int) % 256), .int .u8 ((a : Int) / 256), .int .u8 ((m : Int) % 256), .int .u8 ((m : Int) / 256)] rfl rfl (five_cells rfl) (HONE.out _ _ _ _ _) HB1.out HB2.out (Nat.le_trans hz4 (by simp)) ?_; intro v7 w7 hown7 hgrow7 _))
          have hB7 := (hB4.alloc hz4 _).grown hgrow7 (hB4.alloc hz4 _).size (fun j h => (how4.lt j h).1)
          clear hgrow7
          go_roundw
          case rel =>
            refine ⟨k + 1, by omega, by go_num, ?_, HGD.out, hB7⟩
            rw [HT.out, List.length_append, List.map_append]
            exact hown7
          case measure => simp [intOf]; omega
        case true =>
          go_wp2_with (first | (at_builtin; refine wpList_append_own _ rfl (.tmp 23) (.tmp 45) 86 rfl w.heap.size 5 i0 (.int .u8 0) 1 1 Try.underlying86 hi hz0 hz1' hz2 rfl (by decide) _ _ _ rfl (how4.alloc _) ⟨w4.heap.size, 0, none⟩ 5 5 [.int .u8 1, .int .u8 ((a : Int) % 256), .int .u8 ((a : Int) / 256), .int .u8 ((m : Int) % 256), .int .u8 ((m : Int) / 256)] rfl rfl (five_cells rfl) (HONE.out _ _ _ _ _) HB1.out HB2.out (Nat.le_trans hz4 (by simp)) ?_; intro v7 w7 hown7 hgrow7 _))
          have hB7 := (hB4.alloc hz4 _).grown hgrow7 (hB4.alloc hz4 _).size (fun j h => (how4.lt j h).1)
          clear hgrow7
          go_roundw
          case rel =>
            refine ⟨k + 1, by omega, by go_num, ?_, HGD.out, hB7⟩
            rw [HT.out, List.length_append, List.map_append]
            exact hown7
          case measure => simp [intOf]; omega
    · obtain rfl : k = ms.length := by omega
      have HALL : Hid (S = some (ms.flatMap encM)) := by unfold Hid; rw [HS.out, bytesS_all hl4 (fun j hj => HOK.out j hj hj)]
      rw [List.take_length] at hown
      have hok : ∀ x ∈ ms, okM x = true := by
        intro x hx
        obtain ⟨j, hj, rfl⟩ := List.getElem_of_mem hx
        exact HOK.out j hj hj
      have hfin := intSl_of_owns hown (enc_wf hok) (by rw [enc_length]; omega)
      have HFIN := Lib.hid hfin; clear hfin hown hok
      go_wp2
      refine bodyPost_ret (v := .tuple #[u4, .int .i64 0]) (by simp [results, Try.results72, go_sem]) rfl ⟨_, by rw [HALL.out]; rfl, by rw [HALL.out]; exact HFIN.out, hbel⟩

end Go.Proofs.Ytaeklmnleampcaa
