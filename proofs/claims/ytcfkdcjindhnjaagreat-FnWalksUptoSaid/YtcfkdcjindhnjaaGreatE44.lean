/- Contracts of the program's functions, and what follows from them. -/
import Derived.Test.YtcfkdcjindhnjaaGreatMC
import Derived.Test.YtcfkdcjindhnjaaGreatMH
import Derived.Test.YtcfkdcjindhnjaaGreatMF
set_option linter.unusedVariables false
set_option maxRecDepth 100000
set_option linter.unusedSimpArgs false
namespace Go.Proofs.YtcfkdcjindhnjaaGreat
open Go Go.Av

/-! What is drawn out of bytes: the source. -/

/-- A source: its bytes, the place, the seed. -/
def srcL (ex : Bool) (C : List Int) (n s : Int) : List AV := [.ro 1 ex (C.map u8), i64 n, .lit (.int .u64 s)]

def nxS (s b : Int) : Int := IntKind.u64.wrap (IntKind.u64.wrap (IntKind.u64.wrap (s * 6364136223846793005) + IntKind.u64.wrap b) + 1442695040888963407)

/-- Eight bits of the seed. -/
def drR (s : Int) : Int := IntKind.i64.wrap (IntKind.u64.wrap (BitVec.ofInt 64 (s.fdiv (2 ^ min (40 : Int).toNat 64)) &&& BitVec.ofInt 64 255).toNat)
theorem drR_rng (s : Int) : 0 ≤ drR s ∧ drR s ≤ 255 := by
  have h : (BitVec.ofInt 64 (s.fdiv (2 ^ min (40 : Int).toNat 64)) &&& BitVec.ofInt 64 255).toNat ≤ 255 := by
    rw [BitVec.toNat_and]
    exact Nat.and_le_right
  have hu : ∀ n : Nat, n ≤ 255 → IntKind.u64.wrap (n : Int) = n := by
    intro n hn
    show _ = _
    simp [IntKind.wrap, IntKind.bits, IntKind.signed]
    omega
  unfold drR
  rw [hu _ h, wrap_i64 (by omega) (by omega)]
  omega

noncomputable def X46 : Fx := ⟨Tryz.prog, tys, 46, Tryz.f46, [0]⟩
theorem X46_ok : X46.Ok := ⟨Tryz.func46, tys_ok⟩
theorem next_ct (ex : Bool) (C : List Int) (hC : C.length ≤ 1048576) (hb : ∀ x ∈ C, 0 ≤ x ∧ x ≤ 255) (n s : Int) (hn : 0 ≤ n ∧ n ≤ 1000000000) :
    ∃ r s', (0 ≤ r ∧ r ≤ 255) ∧ CtG Tryz.prog 46 [.bp lid 0] (.box (srcL ex C n s)) (i64 r) (.box (srcL ex C (n + 1) s')) := by
  have hw : IntKind.i64.wrap (n + 1) = n + 1 := wrap_i64 (by omega) (by omega)
  have hl : ((C.map u8).length : Int) = C.length := by rw [List.length_map]
  by_cases h : n < C.length
  · have hlt : n.toNat < C.length := by omega
    refine ⟨C[n.toNat], nxS s C[n.toNat], hb _ (List.getElem_mem hlt), ?_⟩
    have hx := hb _ (List.getElem_mem hlt)
    refine CtG.intro X46 X46_ok rfl (by kernel_rfl) rfl rfl rfl rfl rfl fun g v0 hg => ?_
    unfold srcL
    repeat (refine Run.go rfl ?_)
    refine Run.draw (by kernel_rfl) (by decide +kernel) ?_
    repeat (refine Quiet.go rfl ?_)
    refine Quiet.nil ?_
    repeat (refine Run.go rfl ?_)
    refine Run.cond rfl (fun _ => ?_) (fun h' => absurd h (by simpa using h'))
    refine Run.draw (by kernel_rfl) (by decide +kernel) ?_
    repeat (refine Quiet.go rfl ?_)
    refine Quiet.val rfl rfl (ValOk.idx (u8 C[n.toNat]) rfl rfl rfl rfl rfl (by omega) (by rw [List.getElem?_map, List.getElem?_eq_getElem hlt]; rfl)) rfl ?_
    repeat (refine Quiet.go rfl ?_)
    refine Quiet.nil ?_
    repeat (refine Run.go rfl ?_)
    refine Run.draw (by kernel_rfl) (by decide +kernel) ?_
    repeat (refine Quiet.go rfl ?_)
    refine Quiet.nil ?_
    repeat (refine Run.go rfl ?_)
    refine Run.cond rfl (fun _ => ?_) (fun h' => absurd (show IntKind.i64.wrap (n + 1) ≤ ((C.map u8).length : Nat) by rw [hw]; omega) (by simpa using h'))
    repeat (refine Run.go rfl ?_)
    refine Run.retG hg rfl ?_ ?_ rfl rfl rfl
    · show i64 (IntKind.i64.wrap C[n.toNat]) = _
      rw [wrap_i64 (by omega) (by omega)]
    · show Ob.box [_, i64 (IntKind.i64.wrap (n + 1)), .lit (.int .u64 (nxS s (IntKind.i64.wrap C[n.toNat])))] = _
      rw [hw, wrap_i64 (by omega) (by omega)]
      rfl
  · refine ⟨drR (nxS s 0), nxS s 0, drR_rng _, ?_⟩
    refine CtG.intro X46 X46_ok rfl (by kernel_rfl) rfl rfl rfl rfl rfl fun g v0 hg => ?_
    unfold srcL
    repeat (refine Run.go rfl ?_)
    refine Run.draw (by kernel_rfl) (by decide +kernel) ?_
    repeat (refine Quiet.go rfl ?_)
    refine Quiet.nil ?_
    repeat (refine Run.go rfl ?_)
    refine Run.cond rfl (fun h' => absurd (show n < ((C.map u8).length : Nat) by simpa using h') (by omega)) (fun _ => ?_)
    repeat (refine Run.go rfl ?_)
    refine Run.draw (by kernel_rfl) (by decide +kernel) ?_
    repeat (refine Quiet.go rfl ?_)
    refine Quiet.nil ?_
    repeat (refine Run.go rfl ?_)
    refine Run.cond rfl (fun h' => absurd (show IntKind.i64.wrap (n + 1) ≤ ((C.map u8).length : Nat) by simpa using h') (by rw [hw]; omega)) (fun _ => ?_)
    repeat (refine Run.go rfl ?_)
    refine Run.val rfl rfl rfl (ValOk.shr rfl rfl rfl (by decide)) rfl ?_
    refine Run.val rfl rfl rfl (ValOk.land rfl rfl rfl) rfl ?_
    repeat (refine Run.go rfl ?_)
    refine Run.retG hg rfl ?_ ?_ rfl rfl rfl
    · rfl
    · show Ob.box [_, i64 (IntKind.i64.wrap (n + 1)), .lit (.int .u64 (nxS s 0))] = _
      rw [hw]
      rfl

noncomputable def X20 : Fx := ⟨Tryz.prog, tys, 20, Tryz.f20, [0, 1]⟩
theorem X20_ok : X20.Ok := ⟨Tryz.func20, tys_ok⟩
theorem pick_ct (ex : Bool) (C : List Int) (hC : C.length ≤ 1048576) (hb : ∀ x ∈ C, 0 ≤ x ∧ x ≤ 255) (n s m : Int) (hn : 0 ≤ n ∧ n ≤ 999999999) (hm : 0 < m ∧ m ≤ 1000000) :
    ∃ r n' s', (0 ≤ r ∧ r < m) ∧ (n ≤ n' ∧ n' ≤ n + 2) ∧ CtG Tryz.prog 20 [.bp lid 0, i64 m] (.box (srcL ex C n s)) (i64 r) (.box (srcL ex C n' s')) := by
  by_cases h1 : m ≤ 1
  · refine ⟨0, n, s, by omega, by omega, ?_⟩
    refine CtG.intro X20 X20_ok rfl (by kernel_rfl) rfl rfl rfl rfl rfl fun g v0 hg => ?_
    repeat (refine Run.go rfl ?_)
    refine Run.cond rfl (fun _ => ?_) (fun h' => absurd h1 (by simpa using h'))
    repeat (refine Run.go rfl ?_)
    exact Run.retG hg rfl rfl rfl rfl rfl rfl
  obtain ⟨r1, s1, hr1, c1⟩ := next_ct ex C hC hb n s (by omega)
  by_cases h2 : m > 200
  · obtain ⟨r2, s2, hr2, c2⟩ := next_ct ex C hC hb (n + 1) s1 (by omega)
    have hw : IntKind.i64.wrap (IntKind.i64.wrap (r1 * 256) + r2) = r1 * 256 + r2 := by
      rw [wrap_i64 (n := r1 * 256) (by omega) (by omega), wrap_i64 (by omega) (by omega)]
    refine ⟨(r1 * 256 + r2).tmod m, n + 1 + 1, s2, ?_, by omega, ?_⟩
    · rw [Int.tmod_eq_emod_of_nonneg (by omega)]
      exact ⟨Int.emod_nonneg _ (by omega), Int.emod_lt_of_pos _ hm.1⟩
    refine CtG.intro X20 X20_ok rfl (by kernel_rfl) rfl rfl rfl rfl rfl fun g v0 hg => ?_
    repeat (refine Run.go rfl ?_)
    refine Run.cond rfl (fun h' => absurd (show m ≤ 1 by simpa using h') h1) (fun _ => ?_)
    repeat (refine Run.go rfl ?_)
    refine Run.callG lid rfl rfl rfl rfl rfl rfl rfl rfl c1 rfl rfl ?_
    repeat (refine Run.go rfl ?_)
    refine Run.cond rfl (fun _ => ?_) (fun h' => absurd h2 (by simpa using h'))
    repeat (refine Run.go rfl ?_)
    refine Run.callG lid rfl rfl rfl rfl rfl rfl rfl rfl c2 rfl rfl ?_
    repeat (refine Run.go rfl ?_)
    refine Run.val rfl rfl rfl (ValOk.rem rfl rfl rfl (by omega)) rfl ?_
    repeat (refine Run.go rfl ?_)
    refine Run.retG hg rfl ?_ rfl rfl rfl rfl
    show i64 ((IntKind.i64.wrap (IntKind.i64.wrap (r1 * 256) + r2)).tmod m) = _
    rw [hw]
  · refine ⟨r1.tmod m, n + 1, s1, ?_, by omega, ?_⟩
    · rw [Int.tmod_eq_emod_of_nonneg (by omega)]
      exact ⟨Int.emod_nonneg _ (by omega), Int.emod_lt_of_pos _ hm.1⟩
    refine CtG.intro X20 X20_ok rfl (by kernel_rfl) rfl rfl rfl rfl rfl fun g v0 hg => ?_
    repeat (refine Run.go rfl ?_)
    refine Run.cond rfl (fun h' => absurd (show m ≤ 1 by simpa using h') h1) (fun _ => ?_)
    repeat (refine Run.go rfl ?_)
    refine Run.callG lid rfl rfl rfl rfl rfl rfl rfl rfl c1 rfl rfl ?_
    repeat (refine Run.go rfl ?_)
    refine Run.cond rfl (fun h' => absurd (show m > 200 by simpa using h') h2) (fun _ => ?_)
    repeat (refine Run.go rfl ?_)
    refine Run.val rfl rfl rfl (ValOk.rem rfl rfl rfl (by omega)) rfl ?_
    repeat (refine Run.go rfl ?_)
    exact Run.retG hg rfl rfl rfl rfl rfl rfl

noncomputable def X19 : Fx := ⟨Tryz.prog, tys, 19, Tryz.f19, []⟩
theorem X19_ok : X19.Ok := ⟨Tryz.func19, tys_ok⟩
theorem from_calls (w : World) (A : Option Addr) (n c : Nat) : Calls Tryz.prog 19 #[.slice A n c] w fun e w' => ∃ b T lo hi, e = .returned (.pointer (some ⟨b, 0, none⟩)) ∧ Kp [] w w' ∧ w.heap.size ≤ b ∧
    w'.heap[b]? = some (.cells (Value.slice A n c :: [.int .i64 0, .int .u64 0]).toArray T (lo, hi)) ∧ ∀ k, k ≤ (Value.slice A n c :: [.int .i64 0, .int .u64 0]).toArray.size → ¬ (lo ≤ k ∧ k < hi) := by
  refine (calls_plain X19 X19_ok rfl (vs := [.slice A n c]) rfl rfl (fun w v w' => ∃ b T lo hi, v = .pointer (some ⟨b, 0, none⟩) ∧ Kp [] w w' ∧ w.heap.size ≤ b ∧
    w'.heap[b]? = some (.cells (Value.slice A n c :: [.int .i64 0, .int .u64 0]).toArray T (lo, hi)) ∧ ∀ k, k ≤ (Value.slice A n c :: [.int .i64 0, .int .u64 0]).toArray.size → ¬ (lo ≤ k ∧ k < hi)) (fun g hF0 hp => ?_) w).mono ?_
  rotate_left
  · rintro e w' ⟨v, rfl, b, T, lo, hi, rfl, h⟩
    exact ⟨b, T, lo, hi, rfl, h⟩
  repeat (refine Run.go rfl ?_)
  refine Run.val rfl rfl rfl (ValOk.build (cs := [.lit (.slice A n c), i64 0, .lit (.int .u64 0)]) rfl rfl rfl rfl rfl) rfl ?_
  repeat (refine Run.go rfl ?_)
  refine Run.ret' hp fun hX a w ⟨β, F, hI⟩ => ?_
  have hs := hI.slotv (d := 2) (by intro h; cases h)
  obtain ⟨b, arr, T, lo, hi, Fs, e, hb, hfz, hsz, hr, hF⟩ := hI.obj (5, 0)
  have e2 : arr = (Value.slice A n c :: [.int .i64 0, .int .u64 0]).toArray := by
    have hsz : arr.size = 3 := hsz
    match arr, hsz with
    | ⟨[x0, x1, x2]⟩, _ =>
      have h0 := hr 0 (.lit (.slice A n c)) x0 rfl rfl
      have h1 := hr 1 (.lit (.int .i64 0)) x1 rfl rfl
      have h2 := hr 2 (.lit (.int .u64 0)) x2 rfl rfl
      generalize Fs 0 = G0 at h0
      generalize Fs 1 = G1 at h1
      generalize Fs 2 = G2 at h2
      cases h0; cases h1; cases h2
      rfl
  refine ⟨.pointer (some ⟨b, 0, none⟩), ?_, b, T, lo, hi, rfl, ?_, ?_, by rw [← e2]; exact hb, by rw [← e2]; exact hfz⟩
  · have h1 : a.tmps.getD 2 undef = .pointer (some ⟨b, 0, none⟩) := by
      have hs : Rel w (Lv g F) β (.bp (5, 0) 0) (a.tmps.getD 2 undef) (F (.s 2)) := hs
      generalize a.tmps.getD 2 undef = u at hs
      generalize F (.s 2) = G at hs
      cases hs with
      | bp _ _ _ b' h' => rw [e] at h'; cases h'; rfl
    have := results_run (fn := X19.fn) (tmps := a.tmps) (us := [.pointer (some ⟨b, 0, none⟩)]) (P := X19.P) (w := w) (by
      rw [← h1]; rfl)
    exact this
  · have := hI.kp
    rw [hF0] at this
    exact this
  · have hm : b ∈ F (.o (5, 0)) := by rw [hF]; simp
    rcases hI.range _ b hm with h | h
    · rw [hF0] at h; simp at h
    · exact h
end Go.Proofs.YtcfkdcjindhnjaaGreat
