/- append onto []int. -/
import Derived.Test.YtagiecajffhnpaaGreatWSl
namespace Go.Proofs.YtagiecajffhnpaaGreat

open Go.RowKit

theorem inf_int : (Tryz.prog.info? 3).map (fun i => (i.zero, i.size, i.bytes)) = some (some (.int .i64 0), 1, 8) := by kernel_rfl
theorem ap_int {w : World} {ops : Array Oper} {rest : List Oper} {o : Oper} {a : Act} {Q : Exit → Act → World → Prop} (hgd : o.guard = none) (s x : Operand)
    (ho : o.op = .call { callee := .builtin .append, args := #[s, x], argTypes := #[51, 51] })
    (base : Nat) (v : Value) (l : List Int) (hs : a.eval s = v) (hown : w.ownsRow base 3 1 v l.length (icells l))
    (y : Int) (hx : a.eval x = .slice (some ⟨w.heap.size, 0, none⟩) 1 1) (hn : l.length < 1099511627776) (hbase : base ≤ w.heap.size)
    (h : ∀ v' w', w'.ownsRow base 3 1 v' (l ++ [y]).length (icells (l ++ [y])) → Mine w w' v → wpList Tryz.prog ops Q rest (a.put o.dst v') w') :
    wpList Tryz.prog ops Q (o :: rest) a (w.alloc (.cells #[.int .i64 y] 3)) :=
  ap1 hgd s x 51 ho 3 _ 1 8 Tryz.underlying51 inf_int rfl (by decide) (by decide) base v _ _ hs hown #[.int .i64 y] hx rfl (by simp [Value.oneCell']) hn hbase
    (fun v' w' h2 h3 => h v' w' (by simpa [icells] using h2) h3)
end Go.Proofs.YtagiecajffhnpaaGreat
