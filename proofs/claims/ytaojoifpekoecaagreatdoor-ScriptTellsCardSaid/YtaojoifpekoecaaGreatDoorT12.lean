/-
  The reference's Octets and str. Conditions: as each theorem says.
-/
import Derived.Test.YtaojoifpekoecaaGreatDoorT11
import Derived.Lib.ConvBytes
namespace Go.Proofs.YtaojoifpekoecaaGreatDoor
open Go.RowKit Go.Shelf
set_option maxHeartbeats 1000000
theorem octets (v : Value) (l : List UInt8) (w : World) (h : BytesV w v l) (hs : l.length ≤ 100000000) :
    Calls Tryz.prog 80 #[v] w fun e w' => e = .returned (S (hexW l)) ∧ Below w.heap.size w w' := by
  obtain ⟨a, c, rfl, hv⟩ := h
  by_cases h0 : l = []
  · subst h0
    go_enter Tryz.func80, Tryz.ntmps80
    go_wp2
    refine wp_loop_rounds 1 ?_
    rw [rounds_succ]
    go_wp2
    go_ret
    exact ⟨rfl, (Below.refl _ _).alloc (Nat.le_refl _) _⟩
  · obtain ⟨b, o, rfl, hlt, hc⟩ := hv h0
    exact octets1 b o c l h0 hs w hlt hc
theorem conv_bytes (l : List UInt8) (w : World) : ∃ W2 cap, (convert 9 23 (S l)).run Tryz.prog w = .ok (.slice (some ⟨w.heap.size, 0, none⟩) l.length cap) W2 ∧ Below w.heap.size w W2 ∧ BytesV W2 (.slice (some ⟨w.heap.size, 0, none⟩) l.length cap) l := by
  have h := Lib.run_convert_string_bytes (P := Tryz.prog) w 9 23 5 ⟨l.toArray⟩ Tryz.underlying9 Tryz.underlying23 Tryz.underlying5
  have hs : (⟨l.toArray⟩ : ByteArray).size = l.length := by show l.toArray.size = _; simp
  rw [hs] at h
  refine ⟨_, _, h, ⟨rfl, rfl, rfl, by rw [Lib.bytesWorld_size]; omega, fun k hk => Lib.bytesWorld_at_old w 5 _ k hk⟩, _, _, rfl, fun _ => ⟨w.heap.size, 0, rfl, by rw [Lib.bytesWorld_size]; omega, fun j x hx => ?_⟩⟩
  have hj : j < l.length := (List.getElem?_eq_some_iff.1 hx).1
  rw [Nat.zero_add, Lib.bytesWorld_cell w 5 ⟨l.toArray⟩ j (by rw [hs]; exact hj)]
  simp [List.getD, hx]
set_option maxRecDepth 100000 in
theorem str (l : List UInt8) (w : World) (hs : l.length ≤ 100000000) :
    Calls Tryz.prog 55 #[S l] w fun e w' => e = .returned (S (hexW l)) ∧ Below w.heap.size w w' := by
  obtain ⟨W2, cap, hcv, hb2, hby⟩ := conv_bytes l w
  go_enter Tryz.func55, Tryz.ntmps55
  go_wp2_with (go_at_call 80; refine (octets _ l _ hby hs).mono ?_; rintro e w' ⟨rfl, hb⟩)
  go_ret
  exact ⟨rfl, hb2.trans (hb.mono hb2.size)⟩
end Go.Proofs.YtaojoifpekoecaaGreatDoor

