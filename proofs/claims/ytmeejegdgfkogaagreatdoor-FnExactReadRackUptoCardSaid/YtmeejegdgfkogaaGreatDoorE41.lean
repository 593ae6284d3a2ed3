/- Contracts of the program's functions, and what follows from them. -/
import Derived.Test.YtmeejegdgfkogaaGreatDoorE40
set_option linter.unusedVariables false
set_option maxRecDepth 100000
set_option linter.unusedSimpArgs false
namespace Go.Proofs.YtmeejegdgfkogaaGreatDoor
open Go Go.Av

/-! Racks out of their texts: the program. -/

theorem rdLP_len (s : List UInt8) : (rdLP s).1.length ≤ 60 := by
  obtain ⟨w, h1, h2, h3⟩ := lines_facts s
  rw [rdLP]
  split
  · rename_i h
    rw [Bool.and_eq_true, rdOk, Bool.and_eq_true, decide_eq_true_eq] at h
    simp only [List.length_map]
    omega
  · simp
theorem rdLP_rng (s : List UInt8) : ∀ x ∈ (rdLP s).1, plRng x := by
  intro x hx
  rw [rdLP] at hx
  split at hx
  · obtain ⟨l, _, rfl⟩ := List.mem_map.1 hx
    refine ⟨?_, rbP_rng _⟩
    have := shV_ge (Lib.cut l [32]).1
    simp only [rpP, i16r]
    omega
  · simp at hx
theorem rkC_ok (s : List UInt8) : rkOk (rkC s) := by
  refine ⟨⟨?_, ?_⟩, rdLP_rng _⟩
  · have := shV_ge (Lib.cut s [10]).1
    simp only [rkC, i16r]
    omega
  · have := rdLP_len (Lib.cut s [10]).2.1
    simp only [rkC]
    omega

noncomputable def X5 : Fx := ⟨Tryz.prog, tys, 5, Tryz.f5, [0]⟩
theorem X5_ok : X5.Ok := ⟨Tryz.func5, tys_ok⟩
theorem implReadRack_ct (s : List UInt8) (hlen : s.length ≤ 1048576) : CtA ambA Tryz.prog 5 [str s] (rkRes (rkP s)) [] := by
  have hc := Cut_ct s 10 hlen
  obtain ⟨l1, l2⟩ := cut_len (c := 10) s
  have hok := rkC_ok s
  have hC : rkC s = ⟨shV (Lib.cut s [10]).1, (rdLP (Lib.cut s [10]).2.1).1⟩ := rfl
  have hR : rkP s = if ((Lib.cut s [10]).2.2 && (rdLP (Lib.cut s [10]).2.1).2 && vR (rkC s) && decide (rkT (rkC s) = s)) = true then (rkC s, 0) else (rk0, 5) := rfl
  generalize (Lib.cut s [10]).1 = z0 at hR hC hc l1
  generalize (Lib.cut s [10]).2.1 = z1 at hR hC hc l2
  generalize (Lib.cut s [10]).2.2 = zz at hR hc
  have hsh := short_ct z0 (by omega)
  have hrl := readLinesPlaced_ct z1 (by omega)
  generalize (rdLP z1).2 = fine at hR hrl
  generalize hl : (rdLP z1).1 = l at hC hrl
  generalize rkC s = r at hok hC hR
  obtain ⟨pl, bs⟩ := r
  simp only [Rk.mk.injEq] at hC
  obtain ⟨c1, c2⟩ := hC
  rw [← c1] at hsh
  rw [← c2] at hrl
  have hbl : bs.length ≤ 1048576 := hok.1.2
  obtain ⟨bad, hbad⟩ : ∃ bad, bad = !(zz && fine && vR ⟨pl, bs⟩ && decide (rkT ⟨pl, bs⟩ = s)) := ⟨_, rfl⟩
  refine CtA.intro ambA X5 X5_ok rfl (by kernel_rfl) rfl rfl fun g hA hg => ?_
  have hAT := ambA_T hA
  repeat (refine Run.go rfl ?_)
  refine Run.csA rfl (hc.at hA) rfl rfl ?_
  repeat (refine Run.go rfl ?_)
  refine Run.csA rfl (hrl.at hA) rfl (by simp only [AV.rf, AV.rfL, rfP]; rfl) ?_
  repeat (refine Run.go rfl ?_)
  refine Run.csA rfl (hsh.at hA) rfl rfl ?_
  repeat (refine Run.go rfl ?_)
  refine Run.val rfl rfl rfl (ValOk.build (cs := [i16 pl, .vec (7, 0) 0 (bs.map plA).length]) rfl rfl rfl rfl (by kernel_rfl)) rfl ?_
  iterate 5 (refine Run.go rfl ?_)
  refine Run.region ⟨[(2, .bp (2, 0) 0), (9, .bp (9, 0) 0), (41, bo bad)], [((2, 0), .box [i16 0, .lit (.slice none 0 0)]), ((7, 0), .vec 9 false (bs.map plA)), ((9, 0), .box [i16 pl, .vec (7, 0) 0 (bs.map plA).length])]⟩ ?_ fun k' hN => ?_
  rotate_left
  · have fin : ∀ {v : Bool}, v = bad → bo v = bo bad := fun e => by rw [e]
    have hV := implValidRack_ct ⟨pl, bs⟩ false hok
    cases zz with
    | false =>
      repeat (refine Run.go rfl ?_)
      exact Run.of hN ⟨rfl, rfl, fin (v := true) (by rw [hbad]; rfl), trivial⟩ ⟨rfl, rfl, rfl, trivial⟩
    | true =>
    cases fine with
    | false =>
      repeat (refine Run.go rfl ?_)
      exact Run.of hN ⟨rfl, rfl, fin (v := true) (by rw [hbad]; rfl), trivial⟩ ⟨rfl, rfl, rfl, trivial⟩
    | true =>
    cases hv : vR ⟨pl, bs⟩ with
    | false =>
      rw [hv] at hV hbad
      repeat (refine Run.go rfl ?_)
      refine Run.cs rfl hV (by rw [frzP, decide_eq_true rfl]; rfl) rfl ?_
      repeat (refine Run.go rfl ?_)
      exact Run.of hN ⟨rfl, rfl, fin (v := true) (by rw [hbad]; rfl), trivial⟩ ⟨rfl, rfl, rfl, trivial⟩
    | true =>
      have hT := rackText_ct ⟨pl, bs⟩ false hbl (vR_num hok hv)
      rw [hv] at hV hbad
      repeat (refine Run.go rfl ?_)
      refine Run.cs rfl hV (by rw [frzP, decide_eq_true rfl]; rfl) rfl ?_
      repeat (refine Run.go rfl ?_)
      refine Run.csA rfl (hT.at hAT) (by rw [frzP, decide_eq_true rfl]; rfl) rfl ?_
      repeat (refine Run.go rfl ?_)
      refine Run.of hN ⟨rfl, rfl, fin (v := !((⟨(rkT ⟨pl, bs⟩).toArray⟩ : ByteArray).toList == (⟨s.toArray⟩ : ByteArray).toList)) ?_, trivial⟩ ⟨rfl, rfl, rfl, trivial⟩
      rw [hbad, str_eq]
      rfl
  refine Run.cond rfl (fun h => ?_) (fun h => ?_)
  · rw [hbad, Bool.not_eq_true'] at h
    rw [h] at hR
    have hR : rkP s = (rk0, 5) := hR
    rw [hR] at hg
    repeat (refine Run.go rfl ?_)
    refine Run.val rfl rfl rfl (ValOk.build rfl rfl rfl rfl rfl) rfl ?_
    repeat (refine Run.go rfl ?_)
    refine Run.nilBox (2, 0) 1 9 false rfl rfl ?_
    exact Run.ret (r := .tup [.agg [i16 0, .own 9 false []], i64 5]) hg (by kernel_rfl) rfl
  · rw [hbad, Bool.not_eq_false'] at h
    rw [if_pos h] at hR
    rw [hR] at hg
    repeat (refine Run.go rfl ?_)
    refine Run.packBox (2, 0) 1 rfl rfl rfl rfl ?_
    exact Run.ret (r := .tup [.agg [i16 pl, .own 9 false (bs.map plA)], i64 0]) hg (by kernel_rfl) rfl
end Go.Proofs.YtmeejegdgfkogaaGreatDoor
