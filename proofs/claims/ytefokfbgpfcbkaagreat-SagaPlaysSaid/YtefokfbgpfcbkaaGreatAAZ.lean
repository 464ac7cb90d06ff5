/- Lemmas of this claim. -/
import Derived.WalkKit
import Derived.ProofKit
import Derived.Below
import Derived.Lib.OwnBridge
import Derived.Laws.Rows
import Derived.RangeFuncRecord
import Derived.Laws.AppendOwn
import Derived.Lib.Strings
namespace Go.Proofs.YtefokfbgpfcbkaaGreat
open Go.RowKit
abbrev qA:=@Array.getElem?_eq_some_iff
abbrev qB:=@World.alloc_heap_new
abbrev qC:=@Below.heap_setCell
abbrev qD:=@Below.heap_alloc
abbrev qE:=@List.length_cons
abbrev qF:=@World.size_alloc
abbrev qG:=@IntWalk.i64_in
abbrev qH:=@List.length_append
abbrev qI:=@List.getElem?_eq_some_iff
abbrev qJ:=@Nat.le_refl
abbrev qK:=@Nat.le_trans
abbrev qL:=@List.drop_eq_getElem_cons
abbrev qM:=@List.drop_of_length_le
abbrev qN:=@List.mem_of_getElem?
abbrev qO:=@List.getElem?_eq_getElem
abbrev qP:=@List.length_nil
abbrev qQ:=@World.grownBy_alloc
abbrev qR:=@Oper.wp_mono
abbrev qS:=@List.length_singleton
abbrev qT:=@List.eq_nil_of_length_eq_zero
abbrev qU:=@Below.refl
abbrev qV:=@bodyPost_ret
abbrev qW:=@run_loadVar_row
abbrev qX:=@List.length_map
abbrev qY:=@List.length_take
abbrev qZ:=@List.getElem?_append_left
abbrev zA:=@List.getElem?_append_right
abbrev zC:=@World.cell?_of_block
abbrev zD:=@Nat.lt_of_lt_of_le
abbrev zE:=@List.size_toArray
abbrev zF:=@List.getElem?_cons_zero
abbrev zG:=@List.mem_append
abbrev zH:=@List.append_assoc
abbrev zI:=@List.take_append_drop
abbrev zJ:=@List.getElem?_map
abbrev zK:=@Option.some.injEq
abbrev zL:=@List.getElem?_drop
abbrev zM:=@List.getElem?_of_mem
abbrev zO:=@List.drop_drop
abbrev zQ:=@List.cons_append
abbrev zR:=@List.nil_append
abbrev zT:=@List.not_mem_nil
abbrev zW:=@List.mem_cons
abbrev zX:=@List.mem_singleton
abbrev zY:=@Lib.size_eq
abbrev pT(b o:Nat):Value:=.pointer (some ⟨b,o,none⟩)
abbrev qP0(b:Nat):Value:=.pointer (some ⟨b,0,none⟩)
abbrev nI(n:Nat):Value:=.int .i64 (n:Int)
abbrev uZ:Value:=undef
abbrev sT(l:List UInt8):Value:=.string ⟨l.toArray⟩
abbrev oA(b o:Nat):Option Addr:=some ⟨b,o,none⟩
theorem qeX{α:Sort _}(a:α):∃x,a=x:=⟨_,rfl⟩
end Go.Proofs.YtefokfbgpfcbkaaGreat
