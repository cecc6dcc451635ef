/- A million a: the blocks, reckoned by the kernel. No condition. -/
import Derived.Test.YthjaomkjjlgjeaaShaMil
namespace Go.Proofs.Ythjaomkjjlgjeaa
open Go.RowKit
def KWA : List Nat := [2750124281, 3533219314, 388128048, 1259814150, 2595759036, 3142742866, 4087407621, 209567798, 963185657, 1944370274, 2240997151, 3060653860, 3558850261, 3795850079, 4248659976, 587027157, 3667503101, 3854337474, 1109373709, 1449834259, 1332383432, 1811277571, 1402599420, 41923541, 356419487, 2728937732, 4167673427, 1780128268, 3506461443, 1927923708, 3100717738, 957412701, 3211936012, 2525724465, 897656708, 2750766458, 3733122911, 1490448492, 1007131835, 215170638, 199900175, 3051847127, 2546784594, 1198467073, 1121424104, 1993824782, 4206943767, 1385611443, 2838015846, 320495253, 2870002303, 616322403, 3868675357, 810932918, 4192983651, 4114851946, 2567787456, 3518289627, 3043469264, 3431775655, 2875437985, 3700493388, 2838780141, 3572068108]
def aBlk : List UInt8 := List.replicate 64 97
theorem KWA_eq : KWA = kwOf KEYS (sched aBlk 64) := by decide +kernel
def mil0 : Nat := 41557658498906279274860226408925318911382702236748615442085426012007055353447
def mil1 : Nat := 65069651329525230727976250762486767623697058804185193524996107806189930929547
def mil2 : Nat := 49254454694966084919002635588641055929642683268751217159825547430393596453057
def mil3 : Nat := 5796566614254703343722283618649119671700776580213667739749356621391289918253
def mil4 : Nat := 10622255762259308205291400123081656923204169749229304691449263082834175371399
def mil5 : Nat := 79021262390959282892365395410920213516683878139464503761747638529727848448835
def mil6 : Nat := 13370926776137962468609541167016835338163753506022403216232574225844225794017
def mil7 : Nat := 20545299487986301546496729858228696691310905552070260923245111289018126163168
def mil8 : Nat := 18687356296652240722522616205172161898791940503791590997360055950424797769963
theorem mil0_eq : unp mil0 = H0 := by decide +kernel
theorem run0 : Nat.beq (ap8 (runsN KWA 2000) (unp mil0)) mil1 = true := by decide +kernel
theorem run1 : Nat.beq (ap8 (runsN KWA 2000) (unp mil1)) mil2 = true := by decide +kernel
theorem run2 : Nat.beq (ap8 (runsN KWA 2000) (unp mil2)) mil3 = true := by decide +kernel
theorem run3 : Nat.beq (ap8 (runsN KWA 2000) (unp mil3)) mil4 = true := by decide +kernel
theorem run4 : Nat.beq (ap8 (runsN KWA 2000) (unp mil4)) mil5 = true := by decide +kernel
theorem run5 : Nat.beq (ap8 (runsN KWA 2000) (unp mil5)) mil6 = true := by decide +kernel
theorem run6 : Nat.beq (ap8 (runsN KWA 2000) (unp mil6)) mil7 = true := by decide +kernel
theorem run7 : Nat.beq (ap8 (runsN KWA 1625) (unp mil7)) mil8 = true := by decide +kernel
theorem mil_all : againB aBlk 15625 H0 = unp mil8 := by
  rw [← mil0_eq]
  rw [show 15625 = 2000 + 13625 from rfl, againB_add, chunk KWA aBlk KWA_eq 2000 mil0 mil1 run0]
  rw [show 13625 = 2000 + 11625 from rfl, againB_add, chunk KWA aBlk KWA_eq 2000 mil1 mil2 run1]
  rw [show 11625 = 2000 + 9625 from rfl, againB_add, chunk KWA aBlk KWA_eq 2000 mil2 mil3 run2]
  rw [show 9625 = 2000 + 7625 from rfl, againB_add, chunk KWA aBlk KWA_eq 2000 mil3 mil4 run3]
  rw [show 7625 = 2000 + 5625 from rfl, againB_add, chunk KWA aBlk KWA_eq 2000 mil4 mil5 run4]
  rw [show 5625 = 2000 + 3625 from rfl, againB_add, chunk KWA aBlk KWA_eq 2000 mil5 mil6 run5]
  rw [show 3625 = 2000 + 1625 from rfl, againB_add, chunk KWA aBlk KWA_eq 2000 mil6 mil7 run6]
  exact chunk KWA aBlk KWA_eq 1625 mil7 mil8 run7
theorem zeros_mil : zeros 1000000 = 55 := by decide
end Go.Proofs.Ythjaomkjjlgjeaa
