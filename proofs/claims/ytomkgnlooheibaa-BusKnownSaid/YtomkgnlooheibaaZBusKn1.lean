/- The document's examples of a bus, as lists: what each call makes of them. Plain. No condition. -/
import Derived.Test.YtomkgnlooheibaaZBz
namespace Go.Proofs.Ytomkgnlooheibaa
open Go.RowKit Go.Bus Go.Bus.busK Go.Bus.decK Go.Bus.bitK
set_option linter.unusedVariables false
set_option linter.unusedSimpArgs false
namespace busM
deriving instance DecidableEq for Rl, Cn, ASt, ALt, ABus
abbrev r5 : Rl := ⟨false, 5, 2047⟩
abbrev K0 : ABus := ⟨[freshA [], freshA [], freshA [r5]], []⟩
abbrev c0 : Cn := ⟨0, 0, 0, 0, 0⟩
abbrev fr (n : Int) : F3 := (n, false, [])
abbrev wr (l t : Bool) (n : Int) (fl : List Int) : AWire := ⟨l, t, n, fl⟩
theorem kn_a : tickA 2 K0 (wr false false 0 []) = none := by decide +kernel
theorem kn_b : sendA 2 K0.st (-1) (fr 5) = (1, K0.st) := by decide +kernel
theorem kn_c : sendA 2 K0.st 3 (fr 5) = (1, K0.st) := by decide +kernel
theorem kn_d : takeA K0.st 0 = (25, (0, false, []), K0.st) := by decide +kernel
theorem kn_e : takeA K0.st 3 = (1, (0, false, []), K0.st) := by decide +kernel
theorem kn_f : countA K0.st 3 = (1, c0) := by decide +kernel
abbrev K1 : ABus := ⟨[⟨[fr 7], [], [], c0⟩, freshA [], freshA [r5]], []⟩
theorem kn_g : sendA 2 K0.st 0 (fr 7) = (0, K1.st) := by decide +kernel
abbrev K2 : ABus := ⟨[⟨[fr 7, fr 1], [], [], c0⟩, freshA [], freshA [r5]], []⟩
theorem kn_h : sendA 2 K1.st 0 (fr 1) = (0, K2.st) := by decide +kernel
theorem kn_i : sendA 2 K2.st 0 (fr 2) = (24, K2.st) := by decide +kernel
abbrev K3 : ABus := ⟨[⟨[fr 7, fr 1], [], [], c0⟩, ⟨[fr 5], [], [], c0⟩, freshA [r5]], []⟩
theorem kn_j : sendA 2 K2.st 1 (fr 5) = (0, K3.st) := by decide +kernel
theorem kn_k : sendA 2 K3.st 2 (fr 2048) = (26, K3.st) := by decide +kernel
theorem kn_l : waitsA K3.st = 3 := by decide +kernel
abbrev K4 : ABus := ⟨[⟨[fr 7, fr 1], [fr 5], [], ⟨0, 1, 0, 0, 0⟩⟩, ⟨[], [], [], ⟨1, 0, 0, 0, 0⟩⟩, ⟨[], [fr 5], [r5], ⟨0, 1, 0, 0, 0⟩⟩], []⟩
theorem kn_m : tickA 2 K3 (wr false false 0 []) = some K4 := by decide +kernel
abbrev K5 : ABus := ⟨[⟨[fr 7, fr 1], [], [], ⟨0, 1, 0, 0, 0⟩⟩, ⟨[], [], [], ⟨1, 0, 0, 0, 0⟩⟩, ⟨[], [fr 5], [r5], ⟨0, 1, 0, 0, 0⟩⟩], []⟩
theorem kn_n : takeA K4.st 0 = (0, fr 5, K5.st) := by decide +kernel
theorem kn_o : takeA K5.st 1 = (25, (0, false, []), K5.st) := by decide +kernel
abbrev K6 : ABus := ⟨[⟨[fr 7, fr 1], [], [], ⟨0, 1, 0, 0, 0⟩⟩, ⟨[], [], [], ⟨1, 0, 0, 0, 0⟩⟩, ⟨[], [], [r5], ⟨0, 1, 0, 0, 0⟩⟩], []⟩
theorem kn_p : takeA K5.st 2 = (0, fr 5, K6.st) := by decide +kernel
abbrev K7 : ABus := ⟨[⟨[fr 1], [], [], ⟨1, 1, 0, 0, 0⟩⟩, ⟨[], [], [], ⟨1, 0, 0, 1, 0⟩⟩, ⟨[], [], [r5], ⟨0, 1, 0, 1, 0⟩⟩], []⟩
theorem kn_q : tickA 2 K6 (wr false false 0 [3, 99, -1, 3, 3]) = some K7 := by decide +kernel
theorem kn_r1 : countA K7.st 1 = (0, ⟨1, 0, 0, 1, 0⟩) := by decide +kernel
theorem kn_r2 : countA K7.st 2 = (0, ⟨0, 1, 0, 1, 0⟩) := by decide +kernel
theorem kn_r0 : countA K7.st 0 = (0, ⟨1, 1, 0, 0, 0⟩) := by decide +kernel
abbrev K8 : ABus := ⟨[⟨[], [], [], ⟨2, 1, 0, 0, 0⟩⟩, ⟨[], [], [], ⟨1, 0, 0, 1, 0⟩⟩, ⟨[], [], [r5], ⟨0, 1, 0, 1, 0⟩⟩], [⟨0, bitsF 1 false [], true, 1⟩]⟩
theorem kn_s : tickA 2 K7 (wr false true 1 []) = some K8 := by decide +kernel
theorem kn_t : waitsA K8.st = 0 := by decide +kernel
theorem kn_u : takeA K8.st 1 = (25, (0, false, []), K8.st) := by decide +kernel
abbrev K9 : ABus := ⟨[⟨[], [], [], ⟨2, 1, 0, 0, 0⟩⟩, ⟨[], [fr 1, fr 1], [], ⟨1, 2, 0, 1, 0⟩⟩, ⟨[], [], [r5], ⟨0, 1, 2, 1, 0⟩⟩], []⟩
theorem kn_v : tickA 2 K8 (wr true false 0 []) = some K9 := by decide +kernel
abbrev K10 : ABus := ⟨[⟨[], [], [], ⟨2, 1, 0, 0, 0⟩⟩, ⟨[], [fr 1], [], ⟨1, 2, 0, 1, 0⟩⟩, ⟨[], [], [r5], ⟨0, 1, 2, 1, 0⟩⟩], []⟩
theorem kn_w : takeA K9.st 1 = (0, fr 1, K10.st) := by decide +kernel
abbrev K11 : ABus := ⟨[⟨[], [], [], ⟨2, 1, 0, 0, 0⟩⟩, ⟨[], [], [], ⟨1, 2, 0, 1, 0⟩⟩, ⟨[], [], [r5], ⟨0, 1, 2, 1, 0⟩⟩], []⟩
theorem kn_x : takeA K10.st 1 = (0, fr 1, K11.st) := by decide +kernel
theorem kn_y : countA K11.st 2 = (0, ⟨0, 1, 2, 1, 0⟩) := by decide +kernel
theorem kn_z : tickA 2 K11 (wr false false 0 []) = none := by decide +kernel
end busM
end Go.Proofs.Ytomkgnlooheibaa
