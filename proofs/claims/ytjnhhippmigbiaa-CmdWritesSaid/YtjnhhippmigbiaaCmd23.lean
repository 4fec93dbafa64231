/- Commands: the reference's bytes: words. Conditions: none. -/
import Derived.Test.YtjnhhippmigbiaaCmd21
namespace Go.Proofs.Ytjnhhippmigbiaa
open Go.RowKit

theorem task_size (s : ByteArray) (n : Int) (hs : s.size ≤ 1024) (hn : I64 n) : (encT s ++ encI n).size ≤ 1044 := by
  have := encT_size s hs
  have := encI_size n hn
  rw [ByteArray.size_append]; omega
theorem encG_size10 (c : Command) (hc : c.ok) (hl : shortC c) : (jobB c.job.name c.job.user c.job.band c.job.count c.job.limit.cpu c.job.limit.mem c.job.limit.disk c.job.alloc c.job.budget.k c.job.budget.window).size ≤ 5000 := encG_size c hc hl 10
theorem encG_size11 (c : Command) (hc : c.ok) (hl : shortC c) : (allocB c.alloc.name c.alloc.user c.alloc.count c.alloc.limit.cpu c.alloc.limit.mem c.alloc.limit.disk).size ≤ 5000 := encG_size c hc hl 11
end Go.Proofs.Ytjnhhippmigbiaa
