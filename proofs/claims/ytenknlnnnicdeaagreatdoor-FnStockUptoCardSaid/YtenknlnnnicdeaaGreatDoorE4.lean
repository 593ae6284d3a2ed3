/- Contracts of the program's functions, and what follows from them. -/
import Derived.Test.YtenknlnnnicdeaaGreatDoorE3
set_option linter.unusedVariables false
set_option maxRecDepth 100000
set_option linter.unusedSimpArgs false
namespace Go.Proofs.YtenknlnnnicdeaaGreatDoor
open Go Go.Av Go.RowKit

theorem copyCheck_any (b : Nat) (p v : Value) (w : World) (hp : p = .pointer none ∨ p = .pointer (some ⟨b, 0, none⟩)) (hbk : w.heap[b]? = some (.cells #[p, v] 119 (0, 0))) :
    Calls Tryz.prog 133 #[.pointer (some ⟨b, 0, none⟩)] w fun e w' => e = .returned (.tuple #[]) ∧ w'.heap[b]? = some (.cells #[.pointer (some ⟨b, 0, none⟩), v] 119 (0, 0)) ∧
      Kp [b] w w' ∧ w'.heap.size = w.heap.size := by
  have c0 : w.cell? ⟨b, 0, none⟩ = some p := by rw [Lib.cell_of_heap hbk]; rfl
  rcases hp with rfl | rfl
  · refine (copyCheck_fresh b w c0 (by simp [World.shape?, hbk]) (Lib.frozen_of_heap hbk 0)).mono ?_
    rintro e w' ⟨rfl, rfl⟩
    refine ⟨rfl, ?_, ⟨rfl, rfl, rfl, by simp [World.setCell], fun k hk hn => heap_setCell_other w _ k _ (by simpa using hn)⟩, by simp [World.setCell]⟩
    rw [heap_setCell_same w b 0 _ _ _ hbk]
    rfl
  · refine (copyCheck_used b w c0).mono ?_
    rintro e w' ⟨rfl, rfl⟩
    exact ⟨rfl, hbk, Kp.refl _ _, rfl⟩

set_option maxHeartbeats 1000000 in
theorem writeString_raw (b : Nat) (l s : List UInt8) (ms : List (Nat × Obj)) (w : World) (hB : IsB 119 5 b l ms) (hm : held w ms) (hlen : l.length + s.length ≤ 140737488355328) :
    Calls Tryz.prog 102 #[.pointer (some ⟨b, 0, none⟩), .string ⟨s.toArray⟩] w fun e w' => ∃ ms', IsB 119 5 b (l ++ s) ms' ∧ e = .returned (.tuple #[.int .i64 s.length, .nilIface]) ∧ held w' ms' ∧
      Kp (ms.map Prod.fst) w w' ∧ (ms'.map Prod.fst).Nodup ∧ ∀ x ∈ ms'.map Prod.fst, x ∈ ms.map Prod.fst ∨ w.heap.size ≤ x := by
  obtain ⟨i0, hi, hz0, hz1, hz2⟩ := info_parts Tryz.Builder_Extra_169.infoByte
  obtain ⟨p, v, rs, hp, hrow, hnb, rfl⟩ := hB
  have hbk : w.heap[b]? = some (.cells #[p, v] 119 (0, 0)) := hm (b, _) (by simp)
  have hrs : held w rs := fun e he => hm e (by simp [he])
  go_enter Tryz.func102, Tryz.ntmps102
  go_wp2_with (go_at_call 133; refine (copyCheck_any b p v w hp hbk).mono ?_)
  rintro e w1 ⟨rfl, hb1, hk1, hsz1⟩
  have hrs1 : held w1 rs := fun e he => by
    have h0 := hrs e he
    rw [hk1.block e.1 (Array.getElem?_eq_some_iff.1 h0).1 (by
      intro hx
      rw [List.mem_singleton] at hx
      exact hnb (hx ▸ List.mem_map_of_mem he))]
    exact h0
  have c0 : w1.cell? ⟨b, 0, none⟩ = some (.pointer (some ⟨b, 0, none⟩)) := by rw [Lib.cell_of_heap hb1]; rfl
  have c1 : w1.cell? ⟨b, 1, none⟩ = some v := by rw [Lib.cell_of_heap hb1]; rfl
  go_wp2_with (at_builtin; refine wpList_app rfl _ _ 22 9 rfl 5 i0 Tryz.underlying22 Tryz.underlying9 hi hz0 hz1 hz2 l s v rs rfl hrow hrs1 rfl hlen ?_)
  intro v' w2 rs' hrow' hh' hk2 hnew
  have hb2 : w2.heap[b]? = some (.cells #[.pointer (some ⟨b, 0, none⟩), v] 119 (0, 0)) := by
    rw [hk2.block b (Array.getElem?_eq_some_iff.1 hb1).1 hnb]
    exact hb1
  have d0 : w2.cell? ⟨b, 0, none⟩ = some (.pointer (some ⟨b, 0, none⟩)) := by rw [Lib.cell_of_heap hb2]; rfl
  have d1 : w2.cell? ⟨b, 1, none⟩ = some v := by rw [Lib.cell_of_heap hb2]; rfl
  have f1 : w2.frozen? ⟨b, 1, none⟩ = false := Lib.frozen_of_heap hb2 1
  obtain ⟨ao, n', cap, rfl⟩ : ∃ ao n' cap, v' = .slice ao n' cap := by
    rcases hrow' with ⟨hv, _⟩ | ⟨g, cap, cur, fz, hv, _⟩
    · exact ⟨_, _, _, hv⟩
    · exact ⟨_, _, _, hv⟩
  have hnb' : b ∉ rs'.map Prod.fst := by
    intro hx
    rcases hnew b hx with h | h
    · exact hnb h
    · have := (Array.getElem?_eq_some_iff.1 hb1).1; omega
  have hnew' : RsIn w.heap.size rs rs' := fun x hx => (hnew x hx).imp id fun h => by omega
  clear hnew
  go_wp2
  go_ret2
  refine ⟨(b, .cells #[.pointer (some ⟨b, 0, none⟩), .slice ao n' cap] 119 (0, 0)) :: rs', ⟨_, _, rs', .inr rfl, hrow', hnb', rfl⟩, rfl, ?_, ?_, ?_, ?_⟩
  · intro e he
    rcases List.mem_cons.1 he with rfl | he
    · simp only
      rw [heap_setCell_same w2 b 1 _ _ _ hb2]
      rfl
    · rw [heap_setCell_other w2 ⟨b, 1, none⟩ e.1 _ (fun h => hnb' (by have h : e.1 = b := h; rw [← h]; exact List.mem_map_of_mem he))]
      exact hh' e he
  · refine ⟨?_, ?_, ?_, ?_, fun k hk hn => ?_⟩
    · exact hk2.os.trans hk1.os
    · exact hk2.tape.trans hk1.tape
    · exact hk2.output.trans hk1.output
    · have h1 := hk2.size
      have h2 := hk1.size
      simp [World.setCell]
      omega
    · simp only [List.map_cons, List.mem_cons, not_or] at hn
      rw [heap_setCell_other w2 _ k _ hn.1, hk2.block k (by omega) hn.2, hk1.block k hk (by simpa using hn.1)]
  · simp only [List.map_cons, List.nodup_cons]
    refine ⟨hnb', ?_⟩
    rcases hrow' with ⟨_, _, rfl⟩ | ⟨_, _, _, _, _, _, _, _, _, _, rfl⟩ <;> simp
  · intro x hx
    simp only [List.map_cons, List.mem_cons] at hx ⊢
    rcases hx with rfl | hx
    · exact .inl (.inl rfl)
    · rcases hnew' x hx with h | h
      · exact .inl (.inr h)
      · exact .inr h

theorem string_raw (b : Nat) (l : List UInt8) (ms : List (Nat × Obj)) (w : World) (B : Nat) (hB : IsB 119 5 b l ms) (hm : held w ms) (hBw : B ≤ w.heap.size) (hBm : ∀ x ∈ ms.map Prod.fst, B ≤ x) :
    Calls Tryz.prog 103 #[.pointer (some ⟨b, 0, none⟩)] w fun e w' => e = .returned (.string ⟨l.toArray⟩) ∧ Below B w w' := by
  refine (Tryz.Builder_String_any_k B b l w (hB.builder hm B hBm) hBw).mono ?_
  rintro e w' ⟨rfl, _, hb, _⟩
  exact ⟨rfl, hb⟩
end Go.Proofs.YtenknlnnnicdeaaGreatDoor
