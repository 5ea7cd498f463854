/- Regions that draw their order and hold calls that make memory: whole arrays loaded there, guarded or not. -/
import Derived.Test.YtjpnlnbpaecciaaBase4
namespace Go.Spec
open Go.RowKit
variable {P : Program}
theorem wpQuiet_load_later {w0 : World} {Q : Act → Prop} {ops : Array Oper} {rest : List Oper} {o : Oper} {a : Act} (hw : Region.wanted o (yielded ops a.tmps) = true) (ty : TypeId) (x : Operand) (ho : o.op = .load ty x)
    (g : Nat) (hx : a.eval x = .pointer (some ⟨g, 0, none⟩)) (cs : Array Value) (t : TypeId) (d : TypeDesc) (hB : Blk w0 g cs t)
    (hu : P.underlying ty = some d) (hd : (match d with | .struct _ | .array _ _ => true | _ => false) = true) (hi : (P.info? ty).map (·.size) = some cs.size)
    (h : wpQuiet P ops (fun w' => ∃ q : Later w0, w' = lat q) Q rest (a.put o.dst (.agg cs))) : wpQuiet P ops (fun w' => ∃ q : Later w0, w' = lat q) Q (o :: rest) a :=
  wpQuiet_step fun K hK => by
    rw [if_pos hw]
    refine ⟨.agg cs, fun w' hw' => ?_, hK _ h⟩
    obtain ⟨q, rfl⟩ := hw'
    have hr := run_loadVar_row (P := P) (lat q) g t ty cs (0, 0) d (hB.later (lat_below q)) hu hd hi
    unfold Oper.quietAt execOp
    simp only [ho, hx, Instr.loadAt, Instr.sureAddr, Sem.run_bind, Sem.run_pure, Result.andThen_ok, hr]
    exact ⟨rfl, rfl⟩
end Go.Spec
