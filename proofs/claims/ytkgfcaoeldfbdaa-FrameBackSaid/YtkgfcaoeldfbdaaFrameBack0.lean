/- The walk of the statement FrameBack. -/
import Derived.Test.YtkgfcaoeldfbdaaFBspec
import Derived.Test.YtkgfcaoeldfbdaaBase3
import Derived.Test.YtkgfcaoeldfbdaaVBack
namespace Go.Proofs.Ytkgfcaoeldfbdaa
open Go.RowKit

theorem madeCells_zero (n : Nat) : (madeCells #[.int .u8 0] (n * 1)).toList = (List.replicate n (0 : UInt8)).map bv := by
  unfold madeCells
  apply List.ext_getElem
  · simp
  · intro i h1 h2
    simp [bv, Nat.mod_one]

theorem wpList_make_bytes {P : Program} (w : World) {ops : Array Oper} {rest : List Oper} {o : Oper} {a : Act} {Q : Exit → Act → World → Prop} {t e : TypeId} {bytes : Nat}
    (E : ElTy P t e (.int .u8 0) 1 bytes) (n : Nat) (b2 : bytes * n ≤ 281474976710656) (b3 : n ≤ maxLen)
    (hg : o.guard = none) (l c : Operand) (hop : o.op = Op.makeSlice t l c)
    (kl kc : IntKind) (hl : a.eval l = .int kl (n : Int)) (hc : a.eval c = .int kc (n : Int))
    (hK : ∀ v w', Ob w' w.heap.size e v (List.replicate n 0) → Below w.heap.size w w' → wpList P ops Q rest (a.put o.dst v) w') :
    wpList P ops Q (o :: rest) a w := by
  obtain ⟨h1, ⟨i, hi, hz, hs, hb⟩, _⟩ := E
  refine wpList_make_full w hg l c t hop w.heap.size e i _ 1 h1 hi hz hs kl kc n n n hl hc rfl rfl (by rw [hb]; exact b2) b3 (Nat.le_refl _) fun w' h g => ?_
  refine hK _ _ ?_ ((grown_only g).below (by simp) (Nat.le_refl _))
  have e1 : (madeCells (Value.int .u8 0).cells (n * 1)).toList = (List.replicate n (0 : UInt8)).map bv := madeCells_zero n
  rw [e1] at h
  unfold Ob
  rw [List.length_replicate]
  exact h

end Go.Proofs.Ytkgfcaoeldfbdaa
