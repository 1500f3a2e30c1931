/- Parts of a list of moves and of a list of bytes: what s[:k], s[k:] and s[i:j] are. -/
import Derived.Test.YtaeklmnleampcaaArgs2
import Derived.Test.YtaeklmnleampcaaFrame
import Derived.Laws.Slices
namespace Go.Proofs.Ytaeklmnleampcaa
open Go.RowKit Go.Deep

theorem slice_caps {H : Type} {enc : TypeId × Value → H} {w : World} {base : Nat} {spare : Nat → Bool} {held : Bool} {fuel : Nat} {t e : TypeId} (hu : Try.prog.underlying t = some (.slice e))
    {a : Option Addr} {len cap : Nat} {d : DataW H} {p : List MemPlace} (h : DataW.trod enc Try.prog w base spare held fuel t (Value.slice a len cap).cells.toList = some (d, p)) : len ≤ cap := by
  rcases open_slice hu h with ⟨hcs, _⟩ | ⟨x, len', cap', m, n, D, Pl, hcs, _, hl, _⟩
  · simp [Value.cells] at hcs
    omega
  · simp [Value.cells] at hcs
    obtain ⟨_, rfl, rfl⟩ := hcs
    exact hl

theorem size99 (w : World) : (Go.sizeOf 99).run Try.prog w = .ok 3 w := by kernel_rfl
theorem size5 (w : World) : (Go.sizeOf 5).run Try.prog w = .ok 1 w := by kernel_rfl

theorem sub99 (ao : Option Addr) (l h cap : Nat) (W : World) : ((sizeOf (Try.prog.elem 32)).run Try.prog W).andThen (fun s w => .ok (sliced ao l h cap s) w) = .ok (sliced ao l h cap 3) W := by
  have he : Try.prog.elem 32 = 99 := by simp [Program.elem, Try.underlying32]
  rw [he, size99]; rfl

theorem sub5 (ao : Option Addr) (l h cap : Nat) (W : World) : ((sizeOf (Try.prog.elem 86)).run Try.prog W).andThen (fun s w => .ok (sliced ao l h cap s) w) = .ok (sliced ao l h cap 1) W := by
  have he : Try.prog.elem 86 = 5 := by simp [Program.elem, Try.underlying86]
  rw [he, size5]; rfl

theorem und32 : Try.prog.underlying 32 = some (.slice (Try.prog.elem 32)) := by simp [Program.elem, Try.underlying32]
theorem und86 : Try.prog.underlying 86 = some (.slice (Try.prog.elem 86)) := by simp [Program.elem, Try.underlying86]

/-- The first k moves. -/
theorem move_take {w : World} {ao : Option Addr} {cap : Nat} {m : List MoveT} (h : MoveSl w (.slice ao m.length cap) m) {k : Nat} (hk : k ≤ m.length) (hc : m.length ≤ cap) :
    ∃ a c, MoveSl w (.slice a (m.take k).length c) (m.take k) ∧ ∀ W, (Instr.slice 32 (.slice ao m.length cap) none (some (.int .i64 (k : Int))) none).run Try.prog W = .ok (.slice a (m.take k).length c) W := by
  have hlen : (m.take k).length = k := by rw [List.length_take]; omega
  refine ⟨if cap = 0 then ao else ao.map (·.add (0 * 3)), cap, ?_, fun W => ?_⟩
  · obtain ⟨ao', cap', he, h1, h2, h3⟩ := h
    simp only [Value.slice.injEq] at he
    obtain ⟨rfl, _, rfl⟩ := he
    refine ⟨_, _, rfl, by omega, fun x hx => h2 x (List.mem_of_mem_take hx), fun hne => ?_⟩
    have hm : m ≠ [] := by rintro rfl; simp at hne
    obtain ⟨b, o, rfl, hb, hcell⟩ := h3 hm
    have : 0 < m.length := by rcases m with _ | ⟨x, r⟩; exact absurd rfl hm; simp
    refine ⟨b, o, by rw [if_neg (by omega)]; simp [Addr.add], hb, fun j hj => ?_⟩
    rw [List.getElem_take]
    exact hcell j (by omega)
  · rw [run_slice_h W 32 ao m.length cap und32 .i64 (k : Int) (by omega) (by omega), sub99, hlen]
    simp only [sliced, Int.toNat_natCast, Nat.sub_zero]

/-- The moves behind the first k. -/
theorem move_drop {w : World} {ao : Option Addr} {cap : Nat} {m : List MoveT} (h : MoveSl w (.slice ao m.length cap) m) {k : Nat} (hk : k ≤ m.length) (hc : m.length ≤ cap) :
    ∃ a c, MoveSl w (.slice a (m.drop k).length c) (m.drop k) ∧ ∀ W, (Instr.slice 32 (.slice ao m.length cap) (some (.int .i64 (k : Int))) none none).run Try.prog W = .ok (.slice a (m.drop k).length c) W := by
  have hlen : (m.drop k).length = m.length - k := by rw [List.length_drop]
  refine ⟨if cap = k then ao else ao.map (·.add (k * 3)), cap - k, ?_, fun W => ?_⟩
  · obtain ⟨ao', cap', he, h1, h2, h3⟩ := h
    simp only [Value.slice.injEq] at he
    obtain ⟨rfl, _, rfl⟩ := he
    refine ⟨_, _, rfl, by omega, fun x hx => h2 x (List.mem_of_mem_drop hx), fun hne => ?_⟩
    have hkl : k < m.length := by
      rcases Nat.lt_or_ge k m.length with hl | hl
      · exact hl
      · exact absurd (List.drop_eq_nil_of_le hl) hne
    have hm : m ≠ [] := by rintro rfl; simp at hkl
    obtain ⟨b, o, rfl, hb, hcell⟩ := h3 hm
    refine ⟨b, o + k * 3, by rw [if_neg (by omega)]; simp [Addr.add], hb, fun j hj => ?_⟩
    rw [List.getElem_drop]
    have := hcell (k + j) (by omega)
    rw [show o + (k + j) * 3 = o + k * 3 + j * 3 from by omega] at this
    exact this
  · rw [run_slice_l W 32 ao m.length cap und32 .i64 (k : Int) (by omega) (by omega), sub99, hlen]
    simp only [sliced, Int.toNat_natCast]

/-- The integers from l to k. -/
theorem int_part {kd : IntKind} {w : World} {ao : Option Addr} {cap : Nat} {m : List Int} (h : IntSl kd w (.slice ao m.length cap) m) {l k : Nat} (hl : l < k) (hk : k ≤ m.length) (hc : m.length ≤ cap) :
    ∃ b o, (if cap = l then ao else ao.map (·.add (l * 1))) = some ⟨b, o, none⟩ ∧ b < w.heap.size ∧ ∀ j (hj : j < k - l), w.cell? ⟨b, o + j, none⟩ = some (.int kd (m[l + j]'(by omega))) := by
  obtain ⟨ao', cap', he, h1, h2, h3⟩ := h
  simp only [Value.slice.injEq] at he
  obtain ⟨rfl, _, rfl⟩ := he
  have hm : m ≠ [] := by rintro rfl; simp at hk; omega
  obtain ⟨b, o, rfl, hb, hcell⟩ := h3 hm
  refine ⟨b, o + l, by rw [if_neg (by omega)]; simp [Addr.add], hb, fun j hj => ?_⟩
  have := hcell (l + j) (by omega)
  rw [← Nat.add_assoc] at this
  exact this

end Go.Proofs.Ytaeklmnleampcaa
