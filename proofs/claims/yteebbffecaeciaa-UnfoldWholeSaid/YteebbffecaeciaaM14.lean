/- Texts of this claim laid into one: TMakeS. -/
import Derived.Test.YteebbffecaeciaaM13
/- The maker sized of chapter 19's law. -/
namespace Go.Proofs.Yteebbffecaeciaa
open Go.RowKit

theorem row2_new (w : World) (s t : TT) (A B : TA) : ∃ w2, w.alloc (.cells #[.int .u8 s.kind, .int .u8 s.v.kind, .int .i64 s.v.num, .slice A.va s.v.items.length A.vc, .slice A.sa s.vs.length A.sc, .int .i64 s.lo, .int .i64 s.hi, .slice A.wa s.ws.length A.wc, .int .u8 s.p.kind, .int .u8 s.p.val.kind, .int .i64 s.p.val.num, .slice A.qa s.p.val.items.length A.qc, .int .i64 s.p.num, .slice A.pa s.p.args.length A.pc, .slice A.aa s.args.length A.ac, .int .u8 t.kind, .int .u8 t.v.kind, .int .i64 t.v.num, .slice B.va t.v.items.length B.vc, .slice B.sa t.vs.length B.sc, .int .i64 t.lo, .int .i64 t.hi, .slice B.wa t.ws.length B.wc, .int .u8 t.p.kind, .int .u8 t.p.val.kind, .int .i64 t.p.val.num, .slice B.qa t.p.val.items.length B.qc, .int .i64 t.p.num, .slice B.pa t.p.args.length B.pc, .slice B.aa t.args.length B.ac] 47) = w2 ∧
    Below w.heap.size w w2 ∧ w.heap.size < w2.heap.size ∧ TCells w2 w.heap.size 0 s A ∧ TCells w2 w.heap.size 15 t B := by
  refine ⟨_, rfl, Below.al _, by simp, ⟨?_, ?_, ?_, ?_, ?_, ?_, ?_, ?_, ?_, ?_, ?_, ?_, ?_, ?_, ?_⟩, ⟨?_, ?_, ?_, ?_, ?_, ?_, ?_, ?_, ?_, ?_, ?_, ?_, ?_, ?_, ?_⟩⟩
  all_goals go_simp
end Go.Proofs.Yteebbffecaeciaa
