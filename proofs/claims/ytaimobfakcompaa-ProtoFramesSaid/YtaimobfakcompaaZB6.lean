/- The law of a nil decoder: it takes nothing. -/
import Derived.Test.YtaimobfakcompaaZB5
namespace Go.Proofs.Ytaimobfakcompaa.Zz
set_option linter.unusedVariables false
set_option linter.unusedSimpArgs false
set_option maxRecDepth 20000

def qAwake : List D → Option D
  | [] => some (.bool true)
  | _ => none
theorem qAwake_ok (args : List D) (d : D) (h : qAwake args = some d) : PCall Try.prog 18 args d := by
  unfold qAwake at h
  split at h
  · cases h; exact awake_c
  · cases h
def tb18 : Tab := tb16.addQ 18 qAwake
theorem tb18_q (g : FuncId) (args : List D) : tb18.q g args = if g = 18 then qAwake args else tb16.q g args := rfl
theorem tb18_a : tb18.a = tb16.a := rfl
theorem tb18_c : tb18.c = tb16.c := rfl
theorem tb18_ok : tb18.ok Try.prog := Tab.addQ_ok tb16_ok qAwake_ok

end Go.Proofs.Ytaimobfakcompaa.Zz
