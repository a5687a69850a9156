/-
  A function's statement, put in place of its run by an equation: quicker than a cast, as no text of the run is looked into.
-/
import Derived.Test.YtkfnokgfgcfldaaGreatVexX
namespace Go.Vex
theorem XCalls.ofXE {P : Program} {T : TT} {F : FTab} {JL JJ : Nat → Option JT} (hT : TTok P T) (hF : FOK P F) (hm : P.follows .mixedOrders = true) {f : FuncId} {fn : Func} {vs : List V} {h : Hp} {K : V → Hp → Prop} (hf : P.funcs[f]? = some fn) {X : Prop}
    (he : X = fnX P T F JL JJ fn vs h K) (hx : X) : XCalls P f vs h K := XCalls.ofX hT hF hm hf (he ▸ hx)
end Go.Vex
