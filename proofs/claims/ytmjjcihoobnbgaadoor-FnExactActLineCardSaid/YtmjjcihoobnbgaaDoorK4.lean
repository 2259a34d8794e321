/- Contracts: each call returns what the model says. By program (wip/am/gen2.py). -/
import Derived.Test.YtmjjcihoobnbgaaDoorPA
namespace Go.Proofs.YtmjjcihoobnbgaaDoor.Fw
open Go.RowKit
set_option linter.unusedVariables false
set_option maxRecDepth 100000

theorem fok15 : FnOk Tryd.prog 15 := ⟨_, Tryd.func15, rfl, by kernel_rfl⟩
theorem fok17 : FnOk Tryd.prog 17 := ⟨_, Tryd.func17, rfl, by kernel_rfl⟩
theorem fok18 : FnOk Tryd.prog 18 := ⟨_, Tryd.func18, rfl, by kernel_rfl⟩
theorem fok19 : FnOk Tryd.prog 19 := ⟨_, Tryd.func19, rfl, by kernel_rfl⟩
theorem fok20 : FnOk Tryd.prog 20 := ⟨_, Tryd.func20, rfl, by kernel_rfl⟩
theorem fok21 : FnOk Tryd.prog 21 := ⟨_, Tryd.func21, rfl, by kernel_rfl⟩
/- F15 loop.example/g00974/laws.szCall -/
def laws_szCall (p0 : Call) (p1 : Int) : Int := bif decide ((IntKind.i64.wrap (p1 - (p0.Name.size : Int))) < 0) then (-1) else (bif decide ((IntKind.i64.wrap ((IntKind.i64.wrap (p1 - (p0.Name.size : Int))) - (p0.To.size : Int))) < 0) then (-1) else (bif decide ((IntKind.i64.wrap ((IntKind.i64.wrap ((IntKind.i64.wrap (p1 - (p0.Name.size : Int))) - (p0.To.size : Int))) - (p0.Text.size : Int))) < 0) then (-1) else (IntKind.i64.wrap ((IntKind.i64.wrap ((IntKind.i64.wrap (p1 - (p0.Name.size : Int))) - (p0.To.size : Int))) - (p0.Text.size : Int)))))
theorem c_laws_szCall (p0 : Call) (p1 : Int) : CTs 15 [.o (.st Call _ inferInstance p0), .o (.c (.int .i64 p1))] [Re.c (.int .i64 (laws_szCall p0 p1))] := by
  refine en Tryd.func15 Tryd.ntmps15 fun w hG hgd => ?_
  obtain ⟨hg_p0, _⟩ := hgd
  have hM := laws_szCall.eq_1 p0 p1
  refine ad 20 ?_
  refine cd (fun h1 => ?_) (fun h1 => ?_)
  ·
    have hM := hM.trans (bt h1)
    refine ad 4 ?_
    exact rz (rs := [.tmp 4]) (congrArg (fun x => [Re.c (.int .i64 x)]) hM)
  ·
    have hM := hM.trans (bf h1)
    refine ad 16 ?_
    refine cd (fun h2 => ?_) (fun h2 => ?_)
    ·
      have hM := hM.trans (bt h2)
      refine ad 4 ?_
      exact rz (rs := [.tmp 4]) (congrArg (fun x => [Re.c (.int .i64 x)]) hM)
    ·
      have hM := hM.trans (bf h2)
      refine ad 16 ?_
      refine cd (fun h3 => ?_) (fun h3 => ?_)
      ·
        have hM := hM.trans (bt h3)
        refine ad 4 ?_
        exact rz (rs := [.tmp 4]) (congrArg (fun x => [Re.c (.int .i64 x)]) hM)
      ·
        have hM := hM.trans (bf h3)
        refine ad 6 ?_
        exact rz (rs := [.tmp 4]) (congrArg (fun x => [Re.c (.int .i64 x)]) hM)

/- F18 loop.example/g00974/laws.szAct -/
def laws_szAct (p0 : Deed) (p1 : Int) : Int := bif decide ((laws_szCall p0.Call p1) < 0) then (-1) else (laws_szCall p0.Call p1)
theorem c_laws_szAct (p0 : Deed) (p1 : Int) : CTs 18 [.o (.st Deed _ inferInstance p0), .o (.c (.int .i64 p1))] [Re.c (.int .i64 (laws_szAct p0 p1))] := by
  refine en Tryd.func18 Tryd.ntmps18 fun w hG hgd => ?_
  obtain ⟨hg_p0, _⟩ := hgd
  have hM := laws_szAct.eq_1 p0 p1
  refine ad 10 ?_
  have hg1 : Dat.good (p0.Call : Call) := hg_p0.2.2.2
  refine op (cl (c_laws_szCall p0.Call p1) fok15) ?_
  refine ad 8 ?_
  refine cd (fun h2 => ?_) (fun h2 => ?_)
  ·
    have hM := hM.trans (bt h2)
    refine ad 4 ?_
    exact rz (rs := [.tmp 4]) (congrArg (fun x => [Re.c (.int .i64 x)]) hM)
  ·
    have hM := hM.trans (bf h2)
    refine ad 6 ?_
    exact rz (rs := [.tmp 4]) (congrArg (fun x => [Re.c (.int .i64 x)]) hM)

/- F17 loop.example/g00974/laws.toCall -/
def laws_toCall (p0 : Call) : Call := p0
theorem c_laws_toCall (p0 : Call) : CTs 17 [.o (.st Call _ inferInstance p0)] [Re.st Call _ inferInstance (laws_toCall p0)] := by
  refine en Tryd.func17 Tryd.ntmps17 fun w hG hgd => ?_
  obtain ⟨hg_p0, _⟩ := hgd
  have hM := laws_toCall.eq_1 p0
  refine ad 56 ?_
  exact rz (rs := [.cell 2 28]) (congrArg (fun x => [Re.st Call _ inferInstance x]) hM)

/- F20 loop.example/g00974/laws.toAct -/
def laws_toAct (p0 : Deed) : Deed := (Deed.mk p0.Kind p0.N p0.M (laws_toCall p0.Call))
theorem c_laws_toAct (p0 : Deed) : CTs 20 [.o (.st Deed _ inferInstance p0)] [Re.st Deed _ inferInstance (laws_toAct p0)] := by
  refine en Tryd.func20 Tryd.ntmps20 fun w hG hgd => ?_
  obtain ⟨hg_p0, _⟩ := hgd
  have hM := laws_toAct.eq_1 p0
  refine ad 34 ?_
  have hg1 : Dat.good (p0.Call : Call) := hg_p0.2.2.2
  refine og (clg (c_laws_toCall p0.Call) fok17) fun hgq => ?_
  obtain ⟨hg2, _⟩ := hgq
  refine ad 8 ?_
  have hg3 : Dat.good (Deed.mk p0.Kind p0.N p0.M (laws_toCall p0.Call) : Deed) := ⟨hg_p0.1, hg_p0.2.1, hg_p0.2.2.1, hg2⟩
  exact rz (rs := [.cell 2 38]) (congrArg (fun x => [Re.st Deed _ inferInstance x]) hM)

/- F5 loop.example/g00974/laws.FnExactActLine -/
def laws_FnExactActLine (p0 : Deed) : Bool := bif decide ((laws_szAct p0 1048576) < 0) then true else (bif !decide ((impl_ActLine (laws_toAct p0)) = (spec_ActLine (laws_toAct p0))) then false else true)
theorem c_laws_FnExactActLine (p0 : Deed) : CTs 5 [.o (.st Deed _ inferInstance p0)] [Re.c (.bool (laws_FnExactActLine p0))] := by
  refine en Tryd.func5 Tryd.ntmps5 fun w hG hgd => ?_
  obtain ⟨hg_p0, _⟩ := hgd
  have hM := laws_FnExactActLine.eq_1 p0
  refine ad 13 ?_
  refine op (cl (c_laws_szAct p0 1048576) fok18) ?_
  refine ad 8 ?_
  refine cd (fun h1 => ?_) (fun h1 => ?_)
  ·
    have hM := hM.trans (bt h1)
    refine ad 4 ?_
    exact rz (rs := [.tmp 2]) (congrArg (fun x => [Re.c (.bool x)]) hM)
  ·
    have hM := hM.trans (bf h1)
    refine ad 4 ?_
    refine og (clg (c_laws_toAct p0) fok20) fun hgq => ?_
    obtain ⟨hg2, _⟩ := hgq
    refine op (cl (c_spec_ActLine (laws_toAct p0)) fok19) ?_
    refine ad 5 ?_
    refine og (clg (c_laws_toAct p0) fok20) fun hgq => ?_
    obtain ⟨hg3, _⟩ := hgq
    refine op (cl (c_impl_ActLine (laws_toAct p0)) fok21) ?_
    refine ad 9 ?_
    refine cd (fun h4 => ?_) (fun h4 => ?_)
    ·
      have hM := hM.trans (bt h4)
      refine ad 4 ?_
      exact rz (rs := [.tmp 2]) (congrArg (fun x => [Re.c (.bool x)]) hM)
    ·
      have hM := hM.trans (bf h4)
      refine ad 5 ?_
      exact rz (rs := [.tmp 2]) (congrArg (fun x => [Re.c (.bool x)]) hM)

end Go.Proofs.YtmjjcihoobnbgaaDoor.Fw