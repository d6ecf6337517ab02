/- What the package-level variables hold, and tables of what calls hand on. -/
import Derived.Test.YtlohkhfopnkcmaaGreatDoorEvJ
import Derived.Test.YtlohkhfopnkcmaaGreatDoorEvA
import Derived.KernelRfl
import Derived.Test.YtlohkhfopnkcmaaGreatDoorProg

/- The entries that the program meets, and what is known of them. -/
namespace Go.Proofs.YtlohkhfopnkcmaaGreatDoor
open Go Go.Ev

noncomputable def pick (b : Bool) (x y : Option Hook) : Option Hook := Bool.rec y x b
/-- the entries alone -/
noncomputable def X0 : FuncId → Option Hook := fun f =>
  pick (Nat.beq f 160) (some hIndexByte) (pick (Nat.beq f 100) (some hSame) (pick (Nat.beq f 101) (some (hMakeNoZero 5)) (pick (Nat.beq f 281) (some hCmp) (pick (Nat.beq f 266) (some (hIndexS 3)) none))))
theorem pick_some {f g : FuncId} {h h' : Hook} {y : Option Hook} (e : pick (Nat.beq f g) (some h') y = some h) : (f = g ∧ h = h') ∨ y = some h := by
  unfold pick at e
  cases hb : Nat.beq f g with
  | true => rw [hb] at e; cases e; exact .inl ⟨Nat.eq_of_beq_eq_true hb, rfl⟩
  | false => rw [hb] at e; exact .inr e
theorem X0_ok : ∀ f h, X0 f = some h → HookOk Tryz.prog f h := by
  intro f h e
  rcases pick_some e with ⟨rfl, rfl⟩ | e
  · exact hIndexByte_ok (fn := Tryz.f160) (by kernel_rfl) (by kernel_rfl) (by kernel_rfl) (by kernel_rfl) (by kernel_rfl)
  rcases pick_some e with ⟨rfl, rfl⟩ | e
  · exact hSame_ok (fn := Tryz.f100) (by kernel_rfl) (by kernel_rfl) (by kernel_rfl) (by kernel_rfl) (by kernel_rfl)
  rcases pick_some e with ⟨rfl, rfl⟩ | e
  · exact hMakeNoZero_ok (fn := Tryz.f101) (el := 5) (t := 79) (ps := #[3]) (by kernel_rfl) (by kernel_rfl) (by kernel_rfl) (by kernel_rfl) (by kernel_rfl) (by kernel_rfl)
  rcases pick_some e with ⟨rfl, rfl⟩ | e
  · exact hCmp_ok (fn := Tryz.f281) (by kernel_rfl) (by kernel_rfl) (by kernel_rfl) (by kernel_rfl) (by kernel_rfl)
  rcases pick_some e with ⟨rfl, rfl⟩ | e
  · exact hIndexS_ok (g := 3) (fn := Tryz.f266) (by kernel_rfl) (by exact of_decide_eq_true (by kernel_rfl)) (by kernel_rfl) (by kernel_rfl) (by kernel_rfl) (by kernel_rfl) (by kernel_rfl)
  · cases e
end Go.Proofs.YtlohkhfopnkcmaaGreatDoor

/- What the package-level variables hold, and tables of what calls hand on. -/
namespace Go.Proofs.YtlohkhfopnkcmaaGreatDoor
open Go Go.Ev

def gAscii : AObj := .cells 200 false 0 [.int .u8 (.ofNat 0), .int .u8 (.ofNat 0), .int .u8 (.ofNat 0), .int .u8 (.ofNat 0), .int .u8 (.ofNat 0), .int .u8 (.ofNat 0), .int .u8 (.ofNat 0), .int .u8 (.ofNat 0), .int .u8 (.ofNat 0), .int .u8 (.ofNat 1), .int .u8 (.ofNat 1), .int .u8 (.ofNat 1), .int .u8 (.ofNat 1), .int .u8 (.ofNat 1), .int .u8 (.ofNat 0), .int .u8 (.ofNat 0), .int .u8 (.ofNat 0), .int .u8 (.ofNat 0), .int .u8 (.ofNat 0), .int .u8 (.ofNat 0), .int .u8 (.ofNat 0), .int .u8 (.ofNat 0), .int .u8 (.ofNat 0), .int .u8 (.ofNat 0), .int .u8 (.ofNat 0), .int .u8 (.ofNat 0), .int .u8 (.ofNat 0), .int .u8 (.ofNat 0), .int .u8 (.ofNat 0), .int .u8 (.ofNat 0), .int .u8 (.ofNat 0), .int .u8 (.ofNat 0), .int .u8 (.ofNat 1), .int .u8 (.ofNat 0), .int .u8 (.ofNat 0), .int .u8 (.ofNat 0), .int .u8 (.ofNat 0), .int .u8 (.ofNat 0), .int .u8 (.ofNat 0), .int .u8 (.ofNat 0), .int .u8 (.ofNat 0), .int .u8 (.ofNat 0), .int .u8 (.ofNat 0), .int .u8 (.ofNat 0), .int .u8 (.ofNat 0), .int .u8 (.ofNat 0), .int .u8 (.ofNat 0), .int .u8 (.ofNat 0), .int .u8 (.ofNat 0), .int .u8 (.ofNat 0), .int .u8 (.ofNat 0), .int .u8 (.ofNat 0), .int .u8 (.ofNat 0), .int .u8 (.ofNat 0), .int .u8 (.ofNat 0), .int .u8 (.ofNat 0), .int .u8 (.ofNat 0), .int .u8 (.ofNat 0), .int .u8 (.ofNat 0), .int .u8 (.ofNat 0), .int .u8 (.ofNat 0), .int .u8 (.ofNat 0), .int .u8 (.ofNat 0), .int .u8 (.ofNat 0), .int .u8 (.ofNat 0), .int .u8 (.ofNat 0), .int .u8 (.ofNat 0), .int .u8 (.ofNat 0), .int .u8 (.ofNat 0), .int .u8 (.ofNat 0), .int .u8 (.ofNat 0), .int .u8 (.ofNat 0), .int .u8 (.ofNat 0), .int .u8 (.ofNat 0), .int .u8 (.ofNat 0), .int .u8 (.ofNat 0), .int .u8 (.ofNat 0), .int .u8 (.ofNat 0), .int .u8 (.ofNat 0), .int .u8 (.ofNat 0), .int .u8 (.ofNat 0), .int .u8 (.ofNat 0), .int .u8 (.ofNat 0), .int .u8 (.ofNat 0), .int .u8 (.ofNat 0), .int .u8 (.ofNat 0), .int .u8 (.ofNat 0), .int .u8 (.ofNat 0), .int .u8 (.ofNat 0), .int .u8 (.ofNat 0), .int .u8 (.ofNat 0), .int .u8 (.ofNat 0), .int .u8 (.ofNat 0), .int .u8 (.ofNat 0), .int .u8 (.ofNat 0), .int .u8 (.ofNat 0), .int .u8 (.ofNat 0), .int .u8 (.ofNat 0), .int .u8 (.ofNat 0), .int .u8 (.ofNat 0), .int .u8 (.ofNat 0), .int .u8 (.ofNat 0), .int .u8 (.ofNat 0), .int .u8 (.ofNat 0), .int .u8 (.ofNat 0), .int .u8 (.ofNat 0), .int .u8 (.ofNat 0), .int .u8 (.ofNat 0), .int .u8 (.ofNat 0), .int .u8 (.ofNat 0), .int .u8 (.ofNat 0), .int .u8 (.ofNat 0), .int .u8 (.ofNat 0), .int .u8 (.ofNat 0), .int .u8 (.ofNat 0), .int .u8 (.ofNat 0), .int .u8 (.ofNat 0), .int .u8 (.ofNat 0), .int .u8 (.ofNat 0), .int .u8 (.ofNat 0), .int .u8 (.ofNat 0), .int .u8 (.ofNat 0), .int .u8 (.ofNat 0), .int .u8 (.ofNat 0), .int .u8 (.ofNat 0), .int .u8 (.ofNat 0), .int .u8 (.ofNat 0), .int .u8 (.ofNat 0), .int .u8 (.ofNat 0), .int .u8 (.ofNat 0), .int .u8 (.ofNat 0), .int .u8 (.ofNat 0), .int .u8 (.ofNat 0), .int .u8 (.ofNat 0), .int .u8 (.ofNat 0), .int .u8 (.ofNat 0), .int .u8 (.ofNat 0), .int .u8 (.ofNat 0), .int .u8 (.ofNat 0), .int .u8 (.ofNat 0), .int .u8 (.ofNat 0), .int .u8 (.ofNat 0), .int .u8 (.ofNat 0), .int .u8 (.ofNat 0), .int .u8 (.ofNat 0), .int .u8 (.ofNat 0), .int .u8 (.ofNat 0), .int .u8 (.ofNat 0), .int .u8 (.ofNat 0), .int .u8 (.ofNat 0), .int .u8 (.ofNat 0), .int .u8 (.ofNat 0), .int .u8 (.ofNat 0), .int .u8 (.ofNat 0), .int .u8 (.ofNat 0), .int .u8 (.ofNat 0), .int .u8 (.ofNat 0), .int .u8 (.ofNat 0), .int .u8 (.ofNat 0), .int .u8 (.ofNat 0), .int .u8 (.ofNat 0), .int .u8 (.ofNat 0), .int .u8 (.ofNat 0), .int .u8 (.ofNat 0), .int .u8 (.ofNat 0), .int .u8 (.ofNat 0), .int .u8 (.ofNat 0), .int .u8 (.ofNat 0), .int .u8 (.ofNat 0), .int .u8 (.ofNat 0), .int .u8 (.ofNat 0), .int .u8 (.ofNat 0), .int .u8 (.ofNat 0), .int .u8 (.ofNat 0), .int .u8 (.ofNat 0), .int .u8 (.ofNat 0), .int .u8 (.ofNat 0), .int .u8 (.ofNat 0), .int .u8 (.ofNat 0), .int .u8 (.ofNat 0), .int .u8 (.ofNat 0), .int .u8 (.ofNat 0), .int .u8 (.ofNat 0), .int .u8 (.ofNat 0), .int .u8 (.ofNat 0), .int .u8 (.ofNat 0), .int .u8 (.ofNat 0), .int .u8 (.ofNat 0), .int .u8 (.ofNat 0), .int .u8 (.ofNat 0), .int .u8 (.ofNat 0), .int .u8 (.ofNat 0), .int .u8 (.ofNat 0), .int .u8 (.ofNat 0), .int .u8 (.ofNat 0), .int .u8 (.ofNat 0), .int .u8 (.ofNat 0), .int .u8 (.ofNat 0), .int .u8 (.ofNat 0), .int .u8 (.ofNat 0), .int .u8 (.ofNat 0), .int .u8 (.ofNat 0), .int .u8 (.ofNat 0), .int .u8 (.ofNat 0), .int .u8 (.ofNat 0), .int .u8 (.ofNat 0), .int .u8 (.ofNat 0), .int .u8 (.ofNat 0), .int .u8 (.ofNat 0), .int .u8 (.ofNat 0), .int .u8 (.ofNat 0), .int .u8 (.ofNat 0), .int .u8 (.ofNat 0), .int .u8 (.ofNat 0), .int .u8 (.ofNat 0), .int .u8 (.ofNat 0), .int .u8 (.ofNat 0), .int .u8 (.ofNat 0), .int .u8 (.ofNat 0), .int .u8 (.ofNat 0), .int .u8 (.ofNat 0), .int .u8 (.ofNat 0), .int .u8 (.ofNat 0), .int .u8 (.ofNat 0), .int .u8 (.ofNat 0), .int .u8 (.ofNat 0), .int .u8 (.ofNat 0), .int .u8 (.ofNat 0), .int .u8 (.ofNat 0), .int .u8 (.ofNat 0), .int .u8 (.ofNat 0), .int .u8 (.ofNat 0), .int .u8 (.ofNat 0), .int .u8 (.ofNat 0), .int .u8 (.ofNat 0), .int .u8 (.ofNat 0), .int .u8 (.ofNat 0), .int .u8 (.ofNat 0), .int .u8 (.ofNat 0), .int .u8 (.ofNat 0), .int .u8 (.ofNat 0), .int .u8 (.ofNat 0), .int .u8 (.ofNat 0), .int .u8 (.ofNat 0), .int .u8 (.ofNat 0), .int .u8 (.ofNat 0), .int .u8 (.ofNat 0), .int .u8 (.ofNat 0), .int .u8 (.ofNat 0), .int .u8 (.ofNat 0), .int .u8 (.ofNat 0), .int .u8 (.ofNat 0), .int .u8 (.ofNat 0), .int .u8 (.ofNat 0), .int .u8 (.ofNat 0), .int .u8 (.ofNat 0)]
def gPows : AObj := .cells 299 false 0 [.int .u64 (.ofNat 1), .int .u64 (.ofNat 10), .int .u64 (.ofNat 100), .int .u64 (.ofNat 1000), .int .u64 (.ofNat 10000), .int .u64 (.ofNat 100000), .int .u64 (.ofNat 1000000), .int .u64 (.ofNat 10000000), .int .u64 (.ofNat 100000000), .int .u64 (.ofNat 1000000000), .int .u64 (.ofNat 10000000000), .int .u64 (.ofNat 100000000000), .int .u64 (.ofNat 1000000000000), .int .u64 (.ofNat 10000000000000), .int .u64 (.ofNat 100000000000000), .int .u64 (.ofNat 1000000000000000), .int .u64 (.ofNat 10000000000000000), .int .u64 (.ofNat 100000000000000000), .int .u64 (.ofNat 1000000000000000000), .int .u64 (.ofNat 10000000000000000000)]
def gErr : AObj := .cells 35 false 0 [.iface 407 .top]
def gB32 : AObj := .cells 375 false 0 [.int .u8 (.ofNat 0), .int .u8 (.ofNat 1), .int .u8 (.ofNat 28), .int .u8 (.ofNat 2), .int .u8 (.ofNat 29), .int .u8 (.ofNat 14), .int .u8 (.ofNat 24), .int .u8 (.ofNat 3), .int .u8 (.ofNat 30), .int .u8 (.ofNat 22), .int .u8 (.ofNat 20), .int .u8 (.ofNat 15), .int .u8 (.ofNat 25), .int .u8 (.ofNat 17), .int .u8 (.ofNat 4), .int .u8 (.ofNat 8), .int .u8 (.ofNat 31), .int .u8 (.ofNat 27), .int .u8 (.ofNat 13), .int .u8 (.ofNat 23), .int .u8 (.ofNat 21), .int .u8 (.ofNat 19), .int .u8 (.ofNat 16), .int .u8 (.ofNat 7), .int .u8 (.ofNat 26), .int .u8 (.ofNat 12), .int .u8 (.ofNat 18), .int .u8 (.ofNat 6), .int .u8 (.ofNat 11), .int .u8 (.ofNat 5), .int .u8 (.ofNat 10), .int .u8 (.ofNat 9)]
def gB64 : AObj := .cells 376 false 0 [.int .u8 (.ofNat 0), .int .u8 (.ofNat 1), .int .u8 (.ofNat 56), .int .u8 (.ofNat 2), .int .u8 (.ofNat 57), .int .u8 (.ofNat 49), .int .u8 (.ofNat 28), .int .u8 (.ofNat 3), .int .u8 (.ofNat 61), .int .u8 (.ofNat 58), .int .u8 (.ofNat 42), .int .u8 (.ofNat 50), .int .u8 (.ofNat 38), .int .u8 (.ofNat 29), .int .u8 (.ofNat 17), .int .u8 (.ofNat 4), .int .u8 (.ofNat 62), .int .u8 (.ofNat 47), .int .u8 (.ofNat 59), .int .u8 (.ofNat 36), .int .u8 (.ofNat 45), .int .u8 (.ofNat 43), .int .u8 (.ofNat 51), .int .u8 (.ofNat 22), .int .u8 (.ofNat 53), .int .u8 (.ofNat 39), .int .u8 (.ofNat 33), .int .u8 (.ofNat 30), .int .u8 (.ofNat 24), .int .u8 (.ofNat 18), .int .u8 (.ofNat 12), .int .u8 (.ofNat 5), .int .u8 (.ofNat 63), .int .u8 (.ofNat 55), .int .u8 (.ofNat 48), .int .u8 (.ofNat 27), .int .u8 (.ofNat 60), .int .u8 (.ofNat 41), .int .u8 (.ofNat 37), .int .u8 (.ofNat 16), .int .u8 (.ofNat 46), .int .u8 (.ofNat 35), .int .u8 (.ofNat 44), .int .u8 (.ofNat 21), .int .u8 (.ofNat 52), .int .u8 (.ofNat 32), .int .u8 (.ofNat 23), .int .u8 (.ofNat 11), .int .u8 (.ofNat 54), .int .u8 (.ofNat 26), .int .u8 (.ofNat 40), .int .u8 (.ofNat 15), .int .u8 (.ofNat 34), .int .u8 (.ofNat 20), .int .u8 (.ofNat 31), .int .u8 (.ofNat 10), .int .u8 (.ofNat 25), .int .u8 (.ofNat 14), .int .u8 (.ofNat 19), .int .u8 (.ofNat 9), .int .u8 (.ofNat 13), .int .u8 (.ofNat 8), .int .u8 (.ofNat 7), .int .u8 (.ofNat 6)]
def gMax : AObj := .cells 3 false 0 [.aint .i64 none none]
/-- what a call may ask -/
def objs : List AObj := [.any, gAscii, .any, gMax, gPows, gErr, gB32, gB64, gErr, .any]
def objsA : List AObj := [.any, gAscii, .any, .any, .any, .any, .any, .any, .any, .any]
def sWords : AV := .str 102 55300667485292389154674170357677381049540427357226787982697660130367849087463496464274352375124287702268504555389654435456982621255931352583396029688375191468546731247533033785798111003761016069815708433852461615191987236312682614701622786154784
def sSigns : AV := .str 23 4423182440956925422296785397977726937975773077677551407
def idxTab0 : List (List AV × AV) := [
  ([sWords, .str 8 2336931105441411616], .int .i64 (.ofNat 74)),
  ([sWords, .str 7 9126364790615072], .int .i64 (.ofNat 57)),
  ([sWords, .str 5 139257802272], .int .i64 (.ofNat 63)),
  ([.str 1 116, .str 1 32], .int .i64 (.negSucc 0)),
  ([.str 3 6581861, .str 1 32], .int .i64 (.negSucc 0)),
  ([sWords, .str 3 2124576], .int .i64 (.negSucc 0)),
  ([sWords, .str 6 35620134220832], .int .i64 (.ofNat 86)),
  ([sWords, .str 3 2126624], .int .i64 (.negSucc 0)),
  ([sSigns, .str 2 31528], .int .i64 (.negSucc 0)),
  ([sWords, .str 7 9121975618331424], .int .i64 (.ofNat 10)),
  ([sWords, .str 9 598971261041281818400], .int .i64 (.negSucc 0)),
  ([.str 7 27431051717797235, .str 1 32], .int .i64 (.negSucc 0)),
  ([.str 1 102, .str 1 32], .int .i64 (.negSucc 0)),
  ([sWords, .str 4 544370464], .int .i64 (.ofNat 71)),
  ([sSigns, .str 2 24443], .int .i64 (.negSucc 0)),
  ([sSigns, .str 2 30766], .int .i64 (.negSucc 0)),
  ([.str 3 7959156, .str 1 32], .int .i64 (.negSucc 0)),
  ([sSigns, .str 2 26152], .int .i64 (.negSucc 0)),
  ([sWords, .str 8 2338605653110649376], .int .i64 (.negSucc 0)),
  ([sWords, .str 3 2128160], .int .i64 (.negSucc 0)),
  ([.str 5 435728179558, .str 1 32], .int .i64 (.negSucc 0)),
  ([sSigns, .str 2 32125], .int .i64 (.negSucc 0)),
  ([.str 7 27431051717797223, .str 1 32], .int .i64 (.negSucc 0)),
  ([.str 6 111550524650083, .str 1 32], .int .i64 (.negSucc 0)),
  ([.str 44 1483474054511242765836814102165296432510691504806966521717107873935341486623618863773992158773416269783586, .str 1 10], .int .i64 (.negSucc 0)),
  ([.str 4 690124834, .str 1 10], .int .i64 (.negSucc 0)),
  ([sSigns, .str 2 11817], .int .i64 (.negSucc 0)),
  ([.str 25 215803160699013314521745579067984994181102009592128253092130, .str 1 10], .int .i64 (.negSucc 0)),
  ([.str 3 2253090, .str 1 10], .int .i64 (.negSucc 0)),
  ([.str 15 650053776775395789878029562050404642, .str 1 10], .int .i64 (.negSucc 0)),
  ([.str 10 474273077081745484034594, .str 1 10], .int .i64 (.negSucc 0)),
  ([.str 14 835629406377745255418084779368994, .str 1 10], .int .i64 (.negSucc 0)),
  ([.str 35 762127450937031879339177413232717673088708783472372981627772552363291948970653409570, .str 1 10], .int .i64 (.negSucc 0)),
  ([sSigns, .str 2 31022], .int .i64 (.negSucc 0))]
def idxTab1 : List (List AV × AV) := [
  ([sWords, .str 3 2126880], .int .i64 (.negSucc 0)),
  ([.str 6 121437875889522, .str 1 32], .int .i64 (.negSucc 0)),
  ([sWords, .str 4 544171040], .int .i64 (.ofNat 16)),
  ([.str 3 7632239, .str 1 32], .int .i64 (.negSucc 0)),
  ([sWords, .str 7 9133022241776928], .int .i64 (.negSucc 0)),
  ([sWords, .str 3 2124064], .int .i64 (.negSucc 0)),
  ([sWords, .str 7 9118715554068256], .int .i64 (.ofNat 95)),
  ([sSigns, .str 2 12584], .int .i64 (.negSucc 0)),
  ([sSigns, .str 2 10536], .int .i64 (.negSucc 0)),
  ([sSigns, .str 2 10621], .int .i64 (.negSucc 0)),
  ([sWords, .str 5 139123908896], .int .i64 (.ofNat 0)),
  ([.str 1 120, .str 1 32], .int .i64 (.negSucc 0)),
  ([sWords, .str 7 9118745668707872], .int .i64 (.ofNat 35)),
  ([.str 5 491496043109, .str 1 32], .int .i64 (.negSucc 0)),
  ([.str 1 105, .str 1 32], .int .i64 (.negSucc 0)),
  ([.str 1 98, .str 1 32], .int .i64 (.negSucc 0)),
  ([.str 5 448345170275, .str 1 32], .int .i64 (.negSucc 0)),
  ([.str 4 1954047342, .str 1 32], .int .i64 (.negSucc 0)),
  ([.str 3 6581857, .str 1 32], .int .i64 (.negSucc 0)),
  ([sSigns, .str 2 25896], .int .i64 (.negSucc 0)),
  ([sSigns, .str 2 12667], .int .i64 (.negSucc 0)),
  ([sSigns, .str 2 28251], .int .i64 (.negSucc 0)),
  ([sSigns, .str 2 10537], .int .i64 (.negSucc 0)),
  ([sSigns, .str 2 11560], .int .i64 (.negSucc 0)),
  ([sSigns, .str 2 27432], .int .i64 (.negSucc 0)),
  ([.str 6 127979077722482, .str 1 32], .int .i64 (.negSucc 0)),
  ([.str 3 2240802, .str 1 10], .int .i64 (.negSucc 0)),
  ([sSigns, .str 2 15676], .int .i64 (.ofNat 15)),
  ([sSigns, .str 2 31533], .int .i64 (.negSucc 0)),
  ([sSigns, .str 2 31523], .int .i64 (.negSucc 0)),
  ([sSigns, .str 2 26920], .int .i64 (.negSucc 0)),
  ([sSigns, .str 2 15420], .int .i64 (.ofNat 3)),
  ([.str 8 3683995270831563042, .str 1 10], .int .i64 (.negSucc 0)),
  ([.str 1 121, .str 1 32], .int .i64 (.negSucc 0))]
def idxTab2 : List (List AV × AV) := [
  ([sWords, .str 5 139392806688], .int .i64 (.negSucc 0)),
  ([sWords, .str 6 35620050793504], .int .i64 (.negSucc 0)),
  ([sWords, .str 9 597318159598461743904], .int .i64 (.negSucc 0)),
  ([sWords, .str 3 2123040], .int .i64 (.negSucc 0)),
  ([sSigns, .str 2 32123], .int .i64 (.negSucc 0)),
  ([sSigns, .str 2 11822], .int .i64 (.ofNat 21)),
  ([sWords, .str 3 2122272], .int .i64 (.negSucc 0)),
  ([sSigns, .str 2 29736], .int .i64 (.negSucc 0)),
  ([.str 1 97, .str 1 32], .int .i64 (.negSucc 0)),
  ([.str 3 7104878, .str 1 32], .int .i64 (.negSucc 0)),
  ([sWords, .str 7 9125265312735776], .int .i64 (.ofNat 4)),
  ([sSigns, .str 2 11389], .int .i64 (.negSucc 0)),
  ([sWords, .str 8 2336361472233266976], .int .i64 (.negSucc 0)),
  ([.str 8 7957695015192261990, .str 1 32], .int .i64 (.negSucc 0)),
  ([.str 4 1702195828, .str 1 32], .int .i64 (.negSucc 0)),
  ([.str 3 7499622, .str 1 32], .int .i64 (.negSucc 0)),
  ([sWords, .str 8 2334399943524115232], .int .i64 (.negSucc 0)),
  ([sWords, .str 8 2338605601571041824], .int .i64 (.negSucc 0)),
  ([.str 5 461195539042, .str 1 32], .int .i64 (.negSucc 0)),
  ([sSigns, .str 2 28200], .int .i64 (.negSucc 0)),
  ([sSigns, .str 2 29480], .int .i64 (.negSucc 0)),
  ([.str 6 119212746170207, .str 1 32], .int .i64 (.negSucc 0)),
  ([.str 2 29295, .str 1 32], .int .i64 (.negSucc 0)),
  ([sSigns, .str 2 13613], .int .i64 (.negSucc 0)),
  ([.str 6 127978876395890, .str 1 32], .int .i64 (.negSucc 0)),
  ([sSigns, .str 2 23419], .int .i64 (.negSucc 0)),
  ([.str 39 1120514073359373409357464240401093245883219567400689376090195444137102543748112826181749989666, .str 1 10], .int .i64 (.negSucc 0)),
  ([.str 18 2994870472436590915245946107725374870937890, .str 1 10], .int .i64 (.negSucc 0)),
  ([sSigns, .str 2 13603], .int .i64 (.negSucc 0)),
  ([sSigns, .str 2 25128], .int .i64 (.negSucc 0)),
  ([sSigns, .str 2 24872], .int .i64 (.negSucc 0)),
  ([.str 7 32760384560328547, .str 1 32], .int .i64 (.negSucc 0)),
  ([sSigns, .str 2 9000], .int .i64 (.negSucc 0))]
def idxTab3 : List (List AV × AV) := [
  ([sWords, .str 5 139123909920], .int .i64 (.ofNat 31)),
  ([sWords, .str 3 2122016], .int .i64 (.negSucc 0)),
  ([sWords, .str 3 2127904], .int .i64 (.negSucc 0)),
  ([sWords, .str 3 2123296], .int .i64 (.negSucc 0)),
  ([sWords, .str 10 153152897375717865907744], .int .i64 (.ofNat 45)),
  ([.str 5 465490374508, .str 1 32], .int .i64 (.negSucc 0)),
  ([sWords, .str 5 139358856736], .int .i64 (.ofNat 41)),
  ([.str 4 1701869940, .str 1 32], .int .i64 (.negSucc 0)),
  ([sWords, .str 5 139476497440], .int .i64 (.ofNat 91)),
  ([sWords, .str 6 35684608208416], .int .i64 (.negSucc 0)),
  ([.str 2 28516, .str 1 32], .int .i64 (.negSucc 0)),
  ([.str 1 101, .str 1 32], .int .i64 (.negSucc 0)),
  ([sWords, .str 9 597318159598461740832], .int .i64 (.negSucc 0)),
  ([.str 1 107, .str 1 32], .int .i64 (.negSucc 0)),
  ([.str 5 435610544247, .str 1 32], .int .i64 (.negSucc 0)),
  ([.str 1 115, .str 1 32], .int .i64 (.negSucc 0)),
  ([sSigns, .str 2 8744], .int .i64 (.negSucc 0)),
  ([.str 7 33888479228813151, .str 1 32], .int .i64 (.negSucc 0)),
  ([sWords, .str 9 598682468806149759776], .int .i64 (.negSucc 0)),
  ([sSigns, .str 2 28456], .int .i64 (.negSucc 0)),
  ([sSigns, .str 2 30843], .int .i64 (.negSucc 0)),
  ([sSigns, .str 2 10281], .int .i64 (.negSucc 0)),
  ([sSigns, .str 2 12079], .int .i64 (.ofNat 0)),
  ([.str 40 345364986198305343716411673319234967735666963155028865929435038265366928251797705997490590392866, .str 1 10], .int .i64 (.negSucc 0)),
  ([sSigns, .str 2 11305], .int .i64 (.negSucc 0)),
  ([sSigns, .str 2 13608], .int .i64 (.negSucc 0)),
  ([.str 33 3980865675712313878013987677210725898231727510536932527750037437418138153148962, .str 1 10], .int .i64 (.negSucc 0)),
  ([.str 10 162352253626422044811554, .str 1 10], .int .i64 (.negSucc 0)),
  ([sSigns, .str 2 8739], .int .i64 (.negSucc 0)),
  ([sSigns, .str 2 14120], .int .i64 (.negSucc 0)),
  ([sSigns, .str 2 13694], .int .i64 (.negSucc 0)),
  ([.str 9 759856387104847329314, .str 1 10], .int .i64 (.negSucc 0)),
  ([sSigns, .str 2 29731], .int .i64 (.negSucc 0))]
def idxTab : List (List AV × AV) := idxTab0 ++ idxTab1 ++ idxTab2 ++ idxTab3
def opTab : List (List AV × AV) := [
  ([.str 2 11822], .int .i64 (.negSucc 0)),
  ([.str 1 43], .int .i64 (.ofNat 0)),
  ([.str 1 60], .int .i64 (.negSucc 0)),
  ([.str 1 62], .int .i64 (.negSucc 0)),
  ([.str 2 15676], .int .i64 (.negSucc 0)),
  ([.str 2 15420], .int .i64 (.ofNat 8)),
  ([.str 2 12079], .int .i64 (.ofNat 3)),
  ([.str 1 42], .int .i64 (.ofNat 2)),
  ([.str 1 126], .int .i64 (.ofNat 7)),
  ([.str 1 45], .int .i64 (.ofNat 1))]
/-- every row of a table of searches, run -/
noncomputable def idxOne (r : Rec) (f : FuncId) (G g : Nat) (el : TypeId) (p : List AV × AV) : R := nthk 1 p.1 fun b => match b with
  | .str n _ => idxRuns r f G g el p (Int.ofNat n)
  | _ => .no 430
noncomputable def idxAll (r : Rec) (f : FuncId) (G g : Nat) (el : TypeId) (l : List (List AV × AV)) : R :=
  List.rec (motive := fun _ => R) .ok (fun p _ ih => ifk (frees p.1 && p.2.free) (R.rec ih (fun n => .no n) (idxOne r f G g el p)) (.no 431)) l
theorem idxAll_ok {r : Rec} {f : FuncId} {G g : Nat} {el : TypeId} : ∀ {l : List (List AV × AV)}, idxAll r f G g el l = .ok → ∀ p ∈ l, frees p.1 = true ∧ p.2.free = true ∧ ∃ n, idxRuns r f G g el p n = .ok
  | [], _, _, hp => by cases hp
  | q :: l, e, p, hp => by
    obtain ⟨hb, e1⟩ := ifk_no (show ifk (frees q.1 && q.2.free) (R.rec (idxAll r f G g el l) (fun n => .no n) (idxOne r f G g el q)) (.no 431) = .ok from e)
    rw [Bool.and_eq_true] at hb
    cases h1 : idxOne r f G g el q with
    | no k => rw [h1] at e1; cases e1
    | ok =>
      rw [h1] at e1
      rcases List.mem_cons.1 hp with rfl | hp
      · obtain ⟨b, _, e2⟩ := nthk_ok h1
        refine ⟨hb.1, hb.2, ?_⟩
        split at e2
        · exact ⟨_, e2⟩
        · cases e2
      · exact idxAll_ok (show idxAll r f G g el l = .ok from e1) p hp
/-- every row of a table, run -/
noncomputable def tabAll (r : Rec) (f : FuncId) (objs : List AObj) (l : List (List AV × AV)) : R :=
  List.rec (motive := fun _ => R) .ok (fun p _ ih => ifk (frees p.1 && p.2.free) (R.rec ih (fun n => .no n) (r.call f p.1 .no (stG objs) (chk p.2))) (.no 431)) l
theorem tabAll_ok {r : Rec} {f : FuncId} {objs : List AObj} : ∀ {l : List (List AV × AV)}, tabAll r f objs l = .ok → ∀ p ∈ l, frees p.1 = true ∧ p.2.free = true ∧ r.call f p.1 .no (stG objs) (chk p.2) = .ok
  | [], _, _, hp => by cases hp
  | q :: l, e, p, hp => by
    obtain ⟨hb, e1⟩ := ifk_no (show ifk (frees q.1 && q.2.free) (R.rec (tabAll r f objs l) (fun n => .no n) (r.call f q.1 .no (stG objs) (chk q.2))) (.no 431) = .ok from e)
    rw [Bool.and_eq_true] at hb
    cases h1 : r.call f q.1 .no (stG objs) (chk q.2) with
    | no k => rw [h1] at e1; cases e1
    | ok =>
      rw [h1] at e1
      rcases List.mem_cons.1 hp with rfl | hp
      · exact ⟨hb.1, hb.2, h1⟩
      · exact tabAll_ok (show tabAll r f objs l = .ok from e1) p hp
theorem globals_size : Tryz.prog.globals.size = 10 := by kernel_rfl
theorem max_at : Tryz.prog.globals.findIdx? (·.name == "internal/bytealg.MaxLen") = some 3 := by kernel_rfl

noncomputable def X1 : FuncId → Option Hook := fun f => pick (Nat.beq f 225) (some (hIdx 10 3 3 idxTab)) (X0 f)
noncomputable def X2 : FuncId → Option Hook := fun f => pick (Nat.beq f 153) (some (hTab objsA opTab)) (X1 f)
end Go.Proofs.YtlohkhfopnkcmaaGreatDoor

/- What the sources tell. -/
namespace Go.Proofs.YtlohkhfopnkcmaaGreatDoor
open Go Go.Ev
def row0 : List AV × AV := ([.str 44 3599045129365526486863387837545809189369771811252043667472075892803791954650259047901995356044444634280564, .int .i64 (.ofNat 2000)], .str 9 1870931063299862831160)
def row1 : List AV × AV := ([.str 37 20468734440824964722823234909984532995592339708133543022225070154647091034048240235540332, .int .i64 (.ofNat 2000)], .str 5 215572558368)
def row2 : List AV × AV := ([.str 16 54753589707696323363234210315578402162, .int .i64 (.ofNat 2000)], .str 3 2110240)
def row3 : List AV × AV := ([.str 71 156213020708275970960477571281616629321191915314836062963730339831580297348849907424992169058974410841914571937294483625900790728782441114051188675750814668942346271618415, .int .i64 (.ofNat 2000)], .str 41 231566277593982368070857900536276473431971911032394480928951252109316865965873629966110153396480366)
def row4 : List AV × AV := ([.str 93 14963674595338861795231312695950454779848812917141298077440269915667449054053286314706651166891770174199823520181695049971690635526576495340659436293511109159732224177716529016289369132485017908834098872557726953487889360242, .int .i64 (.ofNat 2000)], .str 38 13805412102697155822810546809050367376528590452249451875636680229414942268488678222384345376)
def row5 : List AV × AV := ([.str 83 30029350539131958766600363684248077284057543302248365436526334924770377142030522214818466045448512148727241443555307220220913603651136764109128119682039204748715476890441056565993543955278261337157484, .int .i64 (.ofNat 2000)], .str 11 131061868460600256262971441)
def row6 : List AV × AV := ([.str 18 3589681454950965528565543591142419286222194, .int .i64 (.ofNat 2000)], .str 4 891302432)
def row7 : List AV × AV := ([.str 52 27192302990505513564573765723203341815558329801772118121632275223186206971508785894439130686131981472847482922278827748255090, .int .i64 (.ofNat 2000)], .str 6 119200074969376)
def row8 : List AV × AV := ([.str 25 258565729266773019602605721379102580690476593903032048313714, .int .i64 (.ofNat 2000)], .str 4 958411296)
def row9 : List AV × AV := ([.str 23 4705329551685794543551676198489270013606473644927840108, .int .i64 (.ofNat 2000)], .str 4 958411296)
def row10 : List AV × AV := ([.str 18 10905752430131569181740210696572014049912178, .int .i64 (.ofNat 2000)], .str 4 958411296)
def row11 : List AV × AV := ([.str 19 1095544908261512718492065931883039636733521772, .int .i64 (.ofNat 2000)], .str 4 924856864)
def row12 : List AV × AV := ([.str 12 37194006363858347149717955954, .int .i64 (.ofNat 2000)], .str 4 924856864)
def row13 : List AV × AV := ([.str 15 255075241946507101844372872613881202, .int .i64 (.ofNat 2000)], .str 4 924856864)
def row14 : List AV × AV := ([.str 14 693494667947251725090042838017394, .int .i64 (.ofNat 2000)], .str 4 924856864)
def row15 : List AV × AV := ([.str 46 80741548211914731287349578774552079100216485960505525608741643706509878466492352799912734357066490217183339890, .int .i64 (.ofNat 2000)], .str 7 28558107082764576)
def row16 : List AV × AV := ([.str 10 592568011600140763948402, .int .i64 (.ofNat 2000)], .str 4 924856864)
def row17 : List AV × AV := ([.str 9 980208580335064343922, .int .i64 (.ofNat 2000)], .str 4 924856864)
def row18 : List AV × AV := ([.str 23 11991375654324044046959580568419639878244968181643109746, .int .i64 (.ofNat 2000)], .str 4 891302176)
def row19 : List AV × AV := ([.str 10 194358723741724976637298, .int .i64 (.ofNat 2000)], .str 5 206982623776)
def row20 : List AV × AV := ([.str 86 206755545450676393313456485545666260045126540875680596121146104346879983596400235911447983277900609063786123044749352686089542616733368746294637819356417724210430543351182853928497429432232932923435100956018, .int .i64 (.ofNat 2000)], .str 12 33551838753957167666634436896)
def row21 : List AV × AV := ([.str 48 6334799359404305128204323582382154124311079573323503318042324555474816497816362612352650188535738449267289883897708, .int .i64 (.ofNat 2000)], .str 5 215572558368)
def row22 : List AV × AV := ([.str 49 4735390610042893966196888795003524062373497744933995067373204159954025655684346981650332455713948701214188343394529132, .int .i64 (.ofNat 2000)], .str 5 215572558368)
def row23 : List AV × AV := ([.str 32 18618015752567276725456770588411415696941962367886148129146184043841367336306, .int .i64 (.ofNat 2000)], .str 6 119200074969376)
def row24 : List AV × AV := ([.str 21 60637936771210334654659206089109498742930459092338, .int .i64 (.ofNat 2000)], .str 4 924856864)
def row25 : List AV × AV := ([.str 21 60202025177823322337518666478649060175398976120178, .int .i64 (.ofNat 2000)], .str 4 924856864)
def row26 : List AV × AV := ([.str 17 14016918884041867987313839025911667910002, .int .i64 (.ofNat 2000)], .str 4 924856864)
def row27 : List AV × AV := ([.str 21 146780407918643547952175347078425979946844608950118, .int .i64 (.ofNat 2000)], .str 4 924856864)
def row28 : List AV × AV := ([.str 62 80261388387978518635526214477812476621583184223959231382557277794659541573239660242100672214487605984182836902824829647372592938137407074748236722022, .int .i64 (.ofNat 2000)], .str 45 994569589122610036627989400043326592883043129823638885150871459174472640014285055578270066265083735004295737)
def row29 : List AV × AV := ([.str 81 187780056455041090188065895422306720282100948822983555830019528017787242831836723030306467718229325027731094000637889885790012479061260447221051761374548923327457488619810658959143740657138626412, .int .i64 (.ofNat 2000)], .str 5 211294368032)
def row30 : List AV × AV := ([.str 39 1342553996493955659858872821375906270799168005549791132554825073938798082181498283824665355634, .int .i64 (.ofNat 2000)], .str 6 119200074969376)
def row31 : List AV × AV := ([.str 27 16948577897009724783496425687150474951141132790501679509441635698, .int .i64 (.ofNat 2000)], .str 6 61805336473888)
def row32 : List AV × AV := ([.str 44 4304849788343199799833256036528227592564507809059490195159762603612347065823418718237569012484598705776759, .int .i64 (.ofNat 2000)], .str 6 119200074969376)
def row33 : List AV × AV := ([.str 16 54708400336014118450921713409063150962, .int .i64 (.ofNat 2000)], .str 6 119200074969376)
def row34 : List AV × AV := ([.str 58 9885320233360464563118044898914865410421276803831399322608823451308913225195847100437302410597820680003014082230997498319402468173159164023, .int .i64 (.ofNat 2000)], .str 4 891302176)
def row35 : List AV × AV := ([.str 62 80261388399089900936616365812248058164796222534671742135525866046624802873852471379577943877420015476113241923749534692766848229062494180092174496372, .int .i64 (.ofNat 2000)], .str 4 840970528)
def row36 : List AV × AV := ([.str 37 25426518850290653506475773570327223571953940015823375348774501809942355202113665494181234, .int .i64 (.ofNat 2000)], .str 4 857747744)
def row37 : List AV × AV := ([.str 15 213880558863780112136749102086124133, .int .i64 (.ofNat 2000)], .str 5 212468773408)
def row38 : List AV × AV := ([.str 45 921355553274859348349573777881480354293446407864574914511088357406694586938349168584089841867681543663873900, .int .i64 (.ofNat 2000)], .str 4 857748000)
def row39 : List AV × AV := ([.str 26 82155839847406502122552321914248852531006487719096545042527599, .int .i64 (.ofNat 100)], .str 6 56492244934707)
def row40 : List AV × AV := ([.str 74 2606237517896848275206690725000537050563058664214684214014424785783269413820388167668527582654561943115586461348751768678161040243568991678908486146742029568484036831396623511404, .int .i64 (.ofNat 100)], .str 13 8589270611433901571196886982709)
def row41 : List AV × AV := ([.str 24 2462566607818427263928109268831877749121886419455230699639, .int .i64 (.ofNat 7)], .str 4 540024881)
end Go.Proofs.YtlohkhfopnkcmaaGreatDoor
