/- Contracts of the program's functions, and what follows from them. -/
import Derived.Test.YtcfkdcjindhnjaaK56
import Derived.Test.YtcfkdcjindhnjaaMH
set_option linter.unusedVariables false
set_option maxRecDepth 100000
set_option linter.unusedSimpArgs false
namespace Go.Proofs.Ytcfkdcjindhnjaa
open Go Go.Av

/-! A part of a list of numbers is stirred; its pivot is chosen. -/

def lenN (n : Nat) : Int := if n = 0 then 0 else if n = 1 then 1 else if n ≤ 3 then 2 else if n ≤ 7 then 3 else if n ≤ 15 then 4 else if n ≤ 31 then 5 else 6
theorem wU8 {n : Nat} (h : n ≤ 60) : (IntKind.u8.wrap (n : Int)).toNat = n := by
  have : IntKind.u8.wrap (n : Int) = n := by
    show _ = _
    simp [IntKind.wrap, IntKind.bits, IntKind.signed]
    omega
  rw [this]
  exact Int.toNat_natCast n
theorem wU64 {n : Nat} (h : n ≤ 1000) : IntKind.u64.wrap (n : Int) = (n : Int) := by
  show ((BitVec.ofInt 64 (n : Int)).toNat : Int) = _
  rw [BitVec.toNat_ofInt]
  omega

noncomputable def X50 : Fx := ⟨Try.prog, tys, 50, Try.f50, [0]⟩
theorem X50_ok : X50.Ok := ⟨Try.func50, tys_ok⟩
theorem len64_ct (n : Nat) (hn : n ≤ 60) : Ct Try.prog 50 [.lit (.int .u64 (n : Int))] (i64 (lenN n)) [] := by
  refine Ct.intro X50 X50_ok rfl (by kernel_rfl) rfl rfl fun g hg => ?_
  repeat (refine Run.go rfl ?_)
  refine Run.cond rfl (fun h => by have := of_decide_eq_true h; omega) (fun _ => ?_)
  repeat (refine Run.go rfl ?_)
  refine Run.cond rfl (fun h => by have := of_decide_eq_true h; omega) (fun _ => ?_)
  repeat (refine Run.go rfl ?_)
  refine Run.cond rfl (fun h => by have := of_decide_eq_true h; omega) (fun _ => ?_)
  repeat (refine Run.go rfl ?_)
  refine Run.val rfl rfl rfl (ValOk.sidx _ (UInt8.ofNat (lenN n).toNat) rfl rfl rfl rfl rfl (by
    have := wU8 hn
    have h2 : IntKind.u8.wrap (n : Int) = n := by
      show _ = _
      simp [IntKind.wrap, IntKind.bits, IntKind.signed]
      omega
    rw [h2]
    omega) (by
    rw [wU8 hn]
    clear hg
    revert n
    decide +kernel)) rfl ?_
  repeat (refine Run.go rfl ?_)
  refine Run.ret (r := i64 (IntKind.i64.wrap (0 + IntKind.i64.wrap ((UInt8.ofNat (lenN n).toNat).toNat : Int)))) hg rfl ?_
  clear hg
  refine congrArg i64 ?_
  revert n
  decide +kernel

noncomputable def X39 : Fx := ⟨Try.prog, tys, 39, Try.f39, []⟩
theorem X39_ok : X39.Ok := ⟨Try.func39, tys_ok⟩
theorem bitsLen_ct (n : Nat) (hn : n ≤ 60) : Ct Try.prog 39 [.lit (.int .u64 (n : Int))] (i64 (lenN n)) [] := by
  refine Ct.intro X39 X39_ok rfl (by kernel_rfl) rfl rfl fun g hg => ?_
  repeat (refine Run.go rfl ?_)
  refine Run.condC (fun h => by cases h) (fun _ => ?_)
  repeat (refine Run.go rfl ?_)
  refine Run.cs rfl (len64_ct n hn) rfl rfl ?_
  repeat (refine Run.go rfl ?_)
  exact Run.ret hg rfl rfl

def p2 (n : Nat) : Int := IntKind.u64.wrap (1 * 2 ^ min (lenN n).toNat 64)
theorem p2_ok : ∀ n : Nat, n ≤ 60 → 8 ≤ n → (n : Int) < p2 n ∧ p2 n ≤ 2 * n := by decide +kernel
theorem lenN_pos : ∀ n : Nat, n ≤ 60 → 0 ≤ lenN n := by decide +kernel

noncomputable def X52 : Fx := ⟨Try.prog, tys, 52, Try.f52, []⟩
theorem X52_ok : X52.Ok := ⟨Try.func52, tys_ok⟩
theorem npow_ct (n : Nat) (hn : n ≤ 60) : Ct Try.prog 52 [i64 (n : Int)] (.lit (.int .u64 (p2 n))) [] := by
  refine Ct.intro X52 X52_ok rfl (by kernel_rfl) rfl rfl fun g hg => ?_
  have hw := wU64 (n := n) (by omega)
  repeat (refine Run.go rfl ?_)
  rw [hw]
  refine Run.cs rfl (bitsLen_ct n hn) rfl rfl ?_
  repeat (refine Run.go rfl ?_)
  refine Run.val rfl rfl rfl (ValOk.shl rfl rfl rfl (lenN_pos n hn)) rfl ?_
  repeat (refine Run.go rfl ?_)
  exact Run.ret hg rfl rfl

def xsL (r k : Int) : Int := IntKind.u64.wrap (BitVec.ofInt IntKind.u64.bits r ^^^ BitVec.ofInt IntKind.u64.bits (IntKind.u64.wrap (r * 2 ^ min k.toNat IntKind.u64.bits))).toNat
def xsR (r k : Int) : Int := IntKind.u64.wrap (BitVec.ofInt IntKind.u64.bits r ^^^ BitVec.ofInt IntKind.u64.bits (r.fdiv (2 ^ min k.toNat IntKind.u64.bits))).toNat
def u64L (n : Int) : AV := .lit (.int .u64 n)

noncomputable def X53 : Fx := ⟨Try.prog, tys, 53, Try.f53, [0]⟩
theorem X53_ok : X53.Ok := ⟨Try.func53, tys_ok⟩
theorem next64_ct (r : Int) : ∃ r', CtG Try.prog 53 [.bp lid 0] (.box [u64L r]) (u64L r') (.box [u64L r']) := by
  refine ⟨xsL (xsR (xsL r 13) 7) 17, ?_⟩
  refine CtG.intro X53 X53_ok rfl (by kernel_rfl) rfl rfl rfl rfl rfl fun g v0 hg => ?_
  unfold u64L
  repeat (refine Run.go rfl ?_)
  refine Run.drawSt rfl (by kernel_rfl) (by decide +kernel) ?_
  repeat (refine Quiet.go rfl ?_)
  refine Quiet.val rfl rfl (ValOk.shl rfl rfl rfl (by decide)) rfl ?_
  repeat (refine Quiet.go rfl ?_)
  refine Quiet.val rfl rfl (ValOk.lxor rfl rfl rfl) rfl ?_
  repeat (refine Quiet.go rfl ?_)
  refine Quiet.nil ⟨_, rfl, ?_⟩
  refine Run.of (st' := ⟨[(0, .bp lid 0), (2, u64L 0)], [(lid, .box [u64L (xsL r 13)]), (lidT, .tie v0 lid)]⟩) ?_ ⟨rfl, rfl, trivial⟩ ⟨rfl, rfl, trivial⟩
  unfold Nxt u64L
  generalize xsL r 13 = r1 at hg ⊢
  repeat (refine Run.go rfl ?_)
  refine Run.drawSt rfl (by kernel_rfl) (by decide +kernel) ?_
  repeat (refine Quiet.go rfl ?_)
  refine Quiet.val rfl rfl (ValOk.shr rfl rfl rfl (by decide)) rfl ?_
  repeat (refine Quiet.go rfl ?_)
  refine Quiet.val rfl rfl (ValOk.lxor rfl rfl rfl) rfl ?_
  repeat (refine Quiet.go rfl ?_)
  refine Quiet.nil ⟨_, rfl, ?_⟩
  refine Run.of (st' := ⟨[(0, .bp lid 0), (2, u64L 0)], [(lid, .box [u64L (xsR r1 7)]), (lidT, .tie v0 lid)]⟩) ?_ ⟨rfl, rfl, trivial⟩ ⟨rfl, rfl, trivial⟩
  unfold Nxt u64L
  generalize xsR r1 7 = r2 at hg ⊢
  repeat (refine Run.go rfl ?_)
  refine Run.drawSt rfl (by kernel_rfl) (by decide +kernel) ?_
  repeat (refine Quiet.go rfl ?_)
  refine Quiet.val rfl rfl (ValOk.shl rfl rfl rfl (by decide)) rfl ?_
  repeat (refine Quiet.go rfl ?_)
  refine Quiet.val rfl rfl (ValOk.lxor rfl rfl rfl) rfl ?_
  repeat (refine Quiet.go rfl ?_)
  refine Quiet.nil ⟨_, rfl, ?_⟩
  repeat (refine Run.go rfl ?_)
  exact Run.retG hg rfl rfl rfl rfl rfl rfl

theorem land_rng (x y : Int) (hy : 0 ≤ y ∧ y ≤ 1000) : 0 ≤ IntKind.i64.wrap (IntKind.u64.wrap (BitVec.ofInt IntKind.u64.bits x &&& BitVec.ofInt IntKind.u64.bits y).toNat) ∧ IntKind.i64.wrap (IntKind.u64.wrap (BitVec.ofInt IntKind.u64.bits x &&& BitVec.ofInt IntKind.u64.bits y).toNat) ≤ y := by
  have h : ((BitVec.ofInt IntKind.u64.bits x &&& BitVec.ofInt IntKind.u64.bits y).toNat : Int) ≤ y := by
    rw [BitVec.toNat_and]
    have h1 : (BitVec.ofInt IntKind.u64.bits y).toNat = y.toNat := by
      show (BitVec.ofInt 64 y).toNat = _
      rw [BitVec.toNat_ofInt]
      omega
    have h2 := Nat.and_le_right (n := (BitVec.ofInt IntKind.u64.bits x).toNat) (m := (BitVec.ofInt IntKind.u64.bits y).toNat)
    omega
  generalize (BitVec.ofInt IntKind.u64.bits x &&& BitVec.ofInt IntKind.u64.bits y).toNat = m at h
  rw [wU64 (by omega), wrap_i64 (by omega) (by omega)]
  omega
end Go.Proofs.Ytcfkdcjindhnjaa
