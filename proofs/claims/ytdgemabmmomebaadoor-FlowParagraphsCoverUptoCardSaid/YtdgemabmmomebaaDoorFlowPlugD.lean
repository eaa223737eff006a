/- utf8.DecodeRuneInString as the printed texts take it; its tables lie in the world. -/
-- PLUG =unicode/utf8.DecodeRuneInString plain making
-- ALONE utf8_appendRuneNonASCII utf8_AppendRune
-- GLOB Glob utf8_DecodeRuneInString flow_Of chancerykeep1_flows chancerykeep1_FlowSlicesJoin chancerykeep1_FlowTextBack chancerykeep1_FlowParagraphsCover
import Derived.Test.YtdgemabmmomebaaDoorPFlowx0
import Derived.Test.YtdgemabmmomebaaDoorChecked
import Derived.Shelf.Unicode.DecodeAny
namespace Go.Proofs.YtdgemabmmomebaaDoor.PFlow
open Go.Shelf Go.Lib
open Go.RowKit Go.Proofs.YtdgemabmmomebaaDoorW.PrintWords Go.Proofs.YtdgemabmmomebaaDoorW.PrintLast Go.Proofs.YtdgemabmmomebaaDoorW.PrintMore
def lays197_ren : Go.Shelf.Ren := ⟨fun | 197 => 19 | 260 => 28 | n => n, fun | 9 => 9 | 21 => 21 | 3 => 3 | 4 => 4 | 5 => 5 | 105 => 45 | 119 => 60 | 0 => 0 | 46 => 61 | 139 => 64 | 138 => 63 | n => n, fun | 3 => 0 | 4 => 1 | n => n⟩
theorem lays197 : Lays.n197 Tryd.prog lays197_ren where
  mixed := by kernel_rfl
  f197 := Tryd.func19.trans (congrArg some (by kernel_rfl))
  f260 := Tryd.func28.trans (congrArg some (by kernel_rfl))
  t0 := Tryd.underlying0
  a0 := Tryd.isAgg0
  z0 := Tryd.sizeOf0
  v0 := Tryd.zeroValue0
  t3 := Tryd.underlying3
  a3 := Tryd.isAgg3
  z3 := Tryd.sizeOf3
  v3 := Tryd.zeroValue3
  t4 := Tryd.underlying4
  a4 := Tryd.isAgg4
  z4 := Tryd.sizeOf4
  v4 := Tryd.zeroValue4
  t5 := Tryd.underlying5
  a5 := Tryd.isAgg5
  z5 := Tryd.sizeOf5
  v5 := Tryd.zeroValue5
  t9 := Tryd.underlying9
  a9 := Tryd.isAgg9
  z9 := Tryd.sizeOf9
  v9 := Tryd.zeroValue9
  t21 := Tryd.underlying21
  a21 := Tryd.isAgg21
  z21 := Tryd.sizeOf21
  v21 := Tryd.zeroValue21
  t46 := Tryd.underlying61
  a46 := Tryd.isAgg61
  z46 := Tryd.sizeOf61
  v46 := Tryd.zeroValue61
  t105 := Tryd.underlying45
  a105 := Tryd.isAgg45
  z105 := Tryd.sizeOf45
  v105 := Tryd.zeroValue45
  t119 := Tryd.underlying60
  a119 := Tryd.isAgg60
  z119 := Tryd.sizeOf60
  t138 := Tryd.underlying63
  a138 := Tryd.isAgg63
  z138 := Tryd.sizeOf63
  v138 := Tryd.zeroValue63
  t139 := Tryd.underlying64
  a139 := Tryd.isAgg64
  z139 := Tryd.sizeOf64
  v139 := Tryd.zeroValue64
  g3 := by kernel_rfl
  g4 := by kernel_rfl
/-- The tables of utf8 lie in the world. -/
def Glob (w : World) : Prop := Lib.Utf8Tabs 0 1 w
theorem Glob.below {w w' : World} (h : Glob w) (hb : Below w.heap.size w w') : Glob w' := by
  have hc : ∀ {p : Addr} {v : Value}, w.cell? p = some v → w'.cell? p = some v := fun e => (hb.cell (World.block_lt_of_cell? w _ e)).trans e
  exact ⟨fun c hlt => hc (h.1 c hlt), fun i hi => ⟨hc (h.2 i hi).1, hc (h.2 i hi).2⟩⟩
def utf8_DecodeRuneInString.f (a0 : ByteArray) : Option (Int × Int) := some (((Lib.decodeGo a0).1 : Int), ((Lib.decodeGo a0).2 : Int))
theorem utf8_DecodeRuneInString.calls (a0 : ByteArray) (r1 r2 : Int) (w : World) (h : utf8_DecodeRuneInString.f a0 = some (r1, r2)) (hG : Glob w) :
    Calls Tryd.prog 19 #[.string a0] w fun e w' => e = .returned (.tuple #[.int .i32 r1, .int .i64 r2]) ∧ Below w.heap.size w w' := by
  simp only [utf8_DecodeRuneInString.f, Option.some.injEq, Prod.mk.injEq] at h
  obtain ⟨rfl, rfl⟩ := h
  exact Any.utf8_DecodeRuneInString lays197 a0 w hG
end Go.Proofs.YtdgemabmmomebaaDoor.PFlow
