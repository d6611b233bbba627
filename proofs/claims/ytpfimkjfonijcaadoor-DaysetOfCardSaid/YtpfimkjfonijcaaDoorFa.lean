/- What the rules of awake let pass, in plain lists and integers. -/
import Derived.Test.YtpfimkjfonijcaaDoorDy
namespace Go.Proofs.YtpfimkjfonijcaaDoor.Da
open Ru
def ra1 : R := ⟨5, 1, 0, 0, 0, [], [], [], [(-1, 4)], [], [], [], [], [], 0⟩
def ra2 : R := ⟨5, 1, 0, 0, 0, [], [], [], [], [], [], [], [], [], 0⟩
def ra0 : R := ⟨0, 0, 0, 0, 0, [], [], [], [], [], [], [], [], [], 0⟩
def ra3 : R := ⟨3, 1, 0, 0, 0, [], [], [], [], [], [], [], [], [], 0⟩
theorem ra1_of : Dy.daysOf ra1 0 738885 738916 = [738910] := by decide +kernel
theorem ra2_of : Dy.daysOf ra2 63842169600 738885 739251 = [738914, 738974, 739005, 739035, 739066, 739096, 739127, 739158, 739188, 739219, 739249] := by decide +kernel
theorem ra_nth : (Dy.about 738910).n0 = 4 ∧ (Dy.about 738910).n1 = -1 ∧ (Dy.about 738910).n2 = 4 ∧ (Dy.about 738910).n3 = -49 := by decide +kernel
theorem ra0_passes : Dy.passes ra0 0 0 = false := by decide +kernel
theorem ra3_passes : Dy.passes ra3 0 5 = true := by decide +kernel
end Go.Proofs.YtpfimkjfonijcaaDoor.Da
