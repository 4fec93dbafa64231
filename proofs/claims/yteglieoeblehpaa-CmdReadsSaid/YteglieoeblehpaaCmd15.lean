/- Whether two commands are the same, as the machine finds it. Conditions: none. -/
import Derived.Test.YteglieoeblehpaaCmd10
import Derived.Test.YteglieoeblehpaaTCmd
import Derived.Test.YteglieoeblehpaaK16
namespace Go.Proofs.Yteglieoeblehpaa
open Go.RowKit

theorem eq_vec {w : World} {d : Nat} (a b : Vec) : (Op.equalIn (d + 2) 54 (.agg #[.int .i64 a.cpu, .int .i64 a.mem, .int .i64 a.disk]) (.agg #[.int .i64 b.cpu, .int .i64 b.mem, .int .i64 b.disk])).run Try.prog w = .ok (decide (a.cpu = b.cpu) && (decide (a.mem = b.mem) && (decide (a.disk = b.disk) && true))) w :=
  eqS_of Try.underlying54 (by kernel_rfl) (eqF_cons (by decide) (by kernel_rfl) (by kernel_rfl) (i_eq Try.underlying2) (eqF_cons (by decide) (by kernel_rfl) (by kernel_rfl) (i_eq Try.underlying2) (eqF_cons (by decide) (by kernel_rfl) (by kernel_rfl) (i_eq Try.underlying2) eqF_nil)))
theorem eq_budget {w : World} {d : Nat} (a b : Budget) : (Op.equalIn (d + 2) 56 (.agg #[.int .i64 a.k, .int .i64 a.window]) (.agg #[.int .i64 b.k, .int .i64 b.window])).run Try.prog w = .ok (decide (a.k = b.k) && (decide (a.window = b.window) && true)) w :=
  eqS_of Try.underlying56 (by kernel_rfl) (eqF_cons (by decide) (by kernel_rfl) (by kernel_rfl) (i_eq Try.underlying3) (eqF_cons (by decide) (by kernel_rfl) (by kernel_rfl) (i_eq Try.underlying2) eqF_nil))
theorem eq_task {w : World} {d : Nat} (a b : Task) : (Op.equalIn (d + 2) 62 (.agg #[.string a.job, .int .i64 a.n]) (.agg #[.string b.job, .int .i64 b.n])).run Try.prog w = .ok (decide (a.job = b.job) && (decide (a.n = b.n) && true)) w :=
  eqS_of Try.underlying62 (by kernel_rfl) (eqF_cons (by decide) (by kernel_rfl) (by kernel_rfl) (s_eq Try.underlying9) (eqF_cons (by decide) (by kernel_rfl) (by kernel_rfl) (i_eq Try.underlying3) eqF_nil))
def eqJob (a b : JobSpec) : Bool := decide (a.name = b.name) && (decide (a.user = b.user) && (decide (a.band = b.band) && (decide (a.count = b.count) && ((decide (a.limit.cpu = b.limit.cpu) && (decide (a.limit.mem = b.limit.mem) && (decide (a.limit.disk = b.limit.disk) && true))) && (decide (a.alloc = b.alloc) && ((decide (a.budget.k = b.budget.k) && (decide (a.budget.window = b.budget.window) && true)) && true))))))
def eqAl (a b : AllocSpec) : Bool := decide (a.name = b.name) && (decide (a.user = b.user) && (decide (a.count = b.count) && ((decide (a.limit.cpu = b.limit.cpu) && (decide (a.limit.mem = b.limit.mem) && (decide (a.limit.disk = b.limit.disk) && true))) && true)))
theorem eq_job {w : World} {d : Nat} (a b : JobSpec) : (Op.equalIn (d + 3) 58 (.agg #[.string a.name, .string a.user, .int .u8 a.band, .int .i64 a.count, .int .i64 a.limit.cpu, .int .i64 a.limit.mem, .int .i64 a.limit.disk, .string a.alloc, .int .i64 a.budget.k, .int .i64 a.budget.window]) (.agg #[.string b.name, .string b.user, .int .u8 b.band, .int .i64 b.count, .int .i64 b.limit.cpu, .int .i64 b.limit.mem, .int .i64 b.limit.disk, .string b.alloc, .int .i64 b.budget.k, .int .i64 b.budget.window])).run Try.prog w = .ok (eqJob a b) w :=
  eqS_of Try.underlying58 (by kernel_rfl) (eqF_cons (by decide) (by kernel_rfl) (by kernel_rfl) (s_eq Try.underlying9) (eqF_cons (by decide) (by kernel_rfl) (by kernel_rfl) (s_eq Try.underlying9) (eqF_cons (by decide) (by kernel_rfl) (by kernel_rfl) (i_eq Try.underlying5) (eqF_cons (by decide) (by kernel_rfl) (by kernel_rfl) (i_eq Try.underlying3) (eqF_cons (by decide) (by kernel_rfl) (by kernel_rfl) (eq_vec a.limit b.limit) (eqF_cons (by decide) (by kernel_rfl) (by kernel_rfl) (s_eq Try.underlying9) (eqF_cons (by decide) (by kernel_rfl) (by kernel_rfl) (eq_budget a.budget b.budget) eqF_nil)))))))
theorem eq_alloc {w : World} {d : Nat} (a b : AllocSpec) : (Op.equalIn (d + 3) 60 (.agg #[.string a.name, .string a.user, .int .i64 a.count, .int .i64 a.limit.cpu, .int .i64 a.limit.mem, .int .i64 a.limit.disk]) (.agg #[.string b.name, .string b.user, .int .i64 b.count, .int .i64 b.limit.cpu, .int .i64 b.limit.mem, .int .i64 b.limit.disk])).run Try.prog w = .ok (eqAl a b) w :=
  eqS_of Try.underlying60 (by kernel_rfl) (eqF_cons (by decide) (by kernel_rfl) (by kernel_rfl) (s_eq Try.underlying9) (eqF_cons (by decide) (by kernel_rfl) (by kernel_rfl) (s_eq Try.underlying9) (eqF_cons (by decide) (by kernel_rfl) (by kernel_rfl) (i_eq Try.underlying3) (eqF_cons (by decide) (by kernel_rfl) (by kernel_rfl) (eq_vec a.limit b.limit) eqF_nil))))
def eqCmd (a b : Command) : Bool := (decide (a.kind = b.kind) && (decide (a.client = b.client) && (decide (a.seq = b.seq) && (decide (a.user = b.user) && (decide (a.band = b.band) && ((decide (a.vec.cpu = b.vec.cpu) && (decide (a.vec.mem = b.vec.mem) && (decide (a.vec.disk = b.vec.disk) && true))) && (decide (a.machine = b.machine) && (eqJob a.job b.job && (eqAl a.alloc b.alloc && (decide (a.name = b.name) && (decide (a.n = b.n) && ((decide (a.task.job = b.task.job) && (decide (a.task.n = b.task.n) && true)) && (decide (a.in_ = b.in_) && (decide (a.gen = b.gen) && (decide (a.why = b.why) && (decide (a.tick = b.tick) && true))))))))))))))))
theorem eqVec_iff (a b : Vec) : (decide (a.cpu = b.cpu) && (decide (a.mem = b.mem) && (decide (a.disk = b.disk) && true))) = decide (a = b) := by
  cases a; cases b; simp
theorem eqJob_iff (a b : JobSpec) : eqJob a b = decide (a = b) := by
  obtain ⟨a1, a2, a3, a4, ⟨a5, a6, a7⟩, a8, ⟨a9, a10⟩⟩ := a
  obtain ⟨b1, b2, b3, b4, ⟨b5, b6, b7⟩, b8, ⟨b9, b10⟩⟩ := b
  simp [eqJob]
theorem eqAl_iff (a b : AllocSpec) : eqAl a b = decide (a = b) := by
  obtain ⟨a1, a2, a4, ⟨a5, a6, a7⟩⟩ := a
  obtain ⟨b1, b2, b4, ⟨b5, b6, b7⟩⟩ := b
  simp [eqAl]
theorem eqTask_iff (a b : Task) : (decide (a.job = b.job) && (decide (a.n = b.n) && true)) = decide (a = b) := by
  cases a; cases b; simp
theorem eqCmd_iff (a b : Command) : eqCmd a b = decide (a = b) := by
  unfold eqCmd
  rw [eqVec_iff, eqJob_iff, eqAl_iff, eqTask_iff]
  obtain ⟨a0, a1, a2, a3, a4, a5, a6, a7, a8, a9, a10, a11, a12, a13, a14, a15⟩ := a
  obtain ⟨b0, b1, b2, b3, b4, b5, b6, b7, b8, b9, b10, b11, b12, b13, b14, b15⟩ := b
  simp
set_option maxRecDepth 100000 in
theorem eq_cmd {w : World} {d : Nat} (a b : Command) : (Op.equalIn (d + 4) 64 a.v b.v).run Try.prog w = .ok (decide (a = b)) w := by
  rw [← eqCmd_iff]
  exact eqS_of Try.underlying64 (by kernel_rfl) (eqF_cons (by decide) (by kernel_rfl) (by kernel_rfl) (i_eq Try.underlying5) (eqF_cons (by decide) (by kernel_rfl) (by kernel_rfl) (i_eq Try.underlying22) (eqF_cons (by decide) (by kernel_rfl) (by kernel_rfl) (i_eq Try.underlying22) (eqF_cons (by decide) (by kernel_rfl) (by kernel_rfl) (s_eq Try.underlying9) (eqF_cons (by decide) (by kernel_rfl) (by kernel_rfl) (i_eq Try.underlying5) (eqF_cons (by decide) (by kernel_rfl) (by kernel_rfl) (eq_vec a.vec b.vec) (eqF_cons (by decide) (by kernel_rfl) (by kernel_rfl) (i_eq Try.underlying3) (eqF_cons (by decide) (by kernel_rfl) (by kernel_rfl) (eq_job a.job b.job) (eqF_cons (by decide) (by kernel_rfl) (by kernel_rfl) (eq_alloc a.alloc b.alloc) (eqF_cons (by decide) (by kernel_rfl) (by kernel_rfl) (s_eq Try.underlying9) (eqF_cons (by decide) (by kernel_rfl) (by kernel_rfl) (i_eq Try.underlying3) (eqF_cons (by decide) (by kernel_rfl) (by kernel_rfl) (eq_task a.task b.task) (eqF_cons (by decide) (by kernel_rfl) (by kernel_rfl) (i_eq Try.underlying3) (eqF_cons (by decide) (by kernel_rfl) (by kernel_rfl) (i_eq Try.underlying3) (eqF_cons (by decide) (by kernel_rfl) (by kernel_rfl) (i_eq Try.underlying5) (eqF_cons (by decide) (by kernel_rfl) (by kernel_rfl) (i_eq Try.underlying2) eqF_nil))))))))))))))))
theorem eql_cmd (a b : Command) (w : World) : (binOp .eql 64 a.v b.v).run Try.prog w = .ok (.bool (decide (a = b))) w := by
  unfold Command.v
  rw [run_eql_struct, show (10000 : Nat) = 9996 + 4 from rfl]
  rw [show _ from eq_cmd (w := w) (d := 9996) a b]
  rfl
theorem neq_cmd (a b : Command) (w : World) : (binOp .neq 64 a.v b.v).run Try.prog w = .ok (.bool (!decide (a = b))) w := by
  unfold Command.v
  rw [run_neq_struct, show (10000 : Nat) = 9996 + 4 from rfl]
  rw [show _ from eq_cmd (w := w) (d := 9996) a b]
  rfl
end Go.Proofs.Yteglieoeblehpaa
