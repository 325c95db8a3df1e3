/- The shell's reader, walked: fields, and what a loop over it lays. -/
import Derived.RangeFuncRecord
import Derived.RangeFuncCalls
import Derived.Test.YtpilifhdhgdbjaaReadG
import Derived.Test.YtpilifhdhgdbjaaRound
import Derived.TacticsIn
import Derived.TacticsInMore
import Derived.LoopNIn
import Derived.LoopIn
import Derived.OwnWalkIn
import Derived.Outline
namespace Go.Proofs.Ytpilifhdhgdbjaa
open Go.RowKit
attribute [local go_sem] Oper.semAt_some

/-- fields: the iterator, a closure over a box of the reader's address. -/
theorem fields_c (b : Nat) (w : World) : Calls Try.prog 24 #[.pointer (some ⟨b, 0, none⟩)] w fun e w' =>
    e = .returned (.func (.func 33) #[] #[.pointer (some ⟨w.heap.size, 0, none⟩)]) ∧ w.alloc (.cells #[.pointer (some ⟨b, 0, none⟩)] 41) = w' := by
  have hmf : ∀ (fn : Fn) (first cap : Array Value) (w : World), (Instr.makeFunc fn first cap).run Try.prog w = .ok (.func fn first cap) w := fun _ _ _ _ => rfl
  go_enter Try.func24, Try.ntmps24
  go_wp2
  go_ret
  exact ⟨rfl, rfl⟩

end Go.Proofs.Ytpilifhdhgdbjaa
