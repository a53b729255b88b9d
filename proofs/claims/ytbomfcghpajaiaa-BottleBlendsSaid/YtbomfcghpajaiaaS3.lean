/- Printed by gen.py: plain models of the program's functions, and that the code does what they say. -/
import Derived.Test.YtbomfcghpajaiaaS0
namespace Go.Proofs.Ytbomfcghpajaiaa
open Go.Dec

def m_wormtubref12_in (n_1 : Int) (least2 : Int) (most3 : Int) : Bool :=
  ((decide (n_1 ≥ least2)) && (decide (n_1 ≤ most3)))
theorem c_wormtubref12_in (F0 : Fz) (n_1 : Int) (least2 : Int) (most3 : Int) : CT0 Try.prog 48 [(.int .i64 n_1), (.int .i64 least2), (.int .i64 most3)].toArray F0 (some (m_wormtubref12_in n_1 least2 most3)) (fun r _ v => v = (.bool r)) := by
  refine CT0.enter Try.func48 rfl Try.ntmps48 rfl fun r R => ?_
  refine .seq ?_
  refine .region ?_
  refine .assign rfl rfl ?_
  refine .nil ?_
  refine .code ?_
  refine .seq ?_
  refine .region ?_
  refine .move rfl rfl ?_
  refine .move rfl rfl ?_
  refine .geq rfl rfl rfl ?_
  refine .move rfl rfl ?_
  refine .andP (b := (decide (n_1 ≥ least2))) (b' := (decide (n_1 ≤ most3))) 4 14 (fun hb4 => ?_) (fun hb5 => ?_) (fun F_6 l_7 => ?_)
  · skip
    refine .onH hb4 rfl rfl ?_
    refine .move rfl rfl ?_
    refine .onH hb4 rfl rfl ?_
    refine .move rfl rfl ?_
    refine .onH hb4 rfl rfl ?_
    refine .leq rfl rfl rfl ?_
    refine .pickTH hb4 rfl rfl rfl ?_
    exact .fin 4 rfl rfl (by kernel_rfl) (Fz.le_refl _)
  · skip
    refine .offH hb5 rfl rfl rfl ?_
    refine .offH hb5 rfl rfl rfl ?_
    refine .offH hb5 rfl rfl rfl ?_
    refine .pickFH hb5 rfl rfl rfl ?_
    exact .fin 4 rfl rfl (by kernel_rfl) (Fz.le_refl _)
  refine .assign rfl rfl ?_
  refine .nil ?_
  refine .code ?_
  exact .ret0 Try.results48 (.tmp rfl (.nil)) (i := 0) rfl l_7 rfl

end Go.Proofs.Ytbomfcghpajaiaa
