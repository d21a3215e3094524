/- Layer 36 (snap): Open, its two logs opened. -/
import Derived.Test.YtbonapdainlpjaaSp7
set_option linter.unusedSimpArgs false
namespace Go.Proofs.Ytbonapdainlpjaa
open Go.RowKit Go.Sort

theorem LoAt.foot {w : World} {B lg bb bc g : Nat} {vr : Value} {ps : List Rc} {d : Lg} (h : LoAt w B lg bb bc g vr ps d) : ∀ k, loAll lg bb vr ps k → B ≤ k := by
  rintro k ((hk | hk | hk) | ⟨p, hp, hk⟩)
  · rw [hk]; exact h.low
  · rw [hk]; exact h.lowb
  · exact (h.recs.lt k hk).1
  · exact ((h.each p hp).1.lt k hk).1

def opn (k i lg : Nat) : Value := if i < k then .pointer (some ⟨lg, 0, none⟩) else .pointer none

structure OpnS (w : World) (B g gb : Nat) (fo : Option Nat) (s : BSt) (h jp k : Nat) (wr : World) (fo1 : Option Nat) (s1 : BSt) (L : Bool → LV) : Prop where
  st : StAt wr B g gb fo1 s1
  row : wr.heap[jp]? = some (.cells #[opn k 0 (L false).lg, opn k 1 (L true).lg, .int .i64 0, .int .i64 (h * 64 : Nat), .bool false] 139 (0, 0))
  logs : ∀ i, bi i < k → (L i).At wr B g ∧ LOk s1 (L i).d ∧ (L i).d.fr = bi i * h ∧ (L i).d.n = h ∧ (L i).d.recs = (lrecs (lreg s (bi i * h) h)).1
  new : ∀ i, bi i < k → ∀ q, (L i).all q → w.heap.size ≤ q
  ap : 1 < k → ∀ q, (L false).all q → ¬ (L true).all q
  reg : ∀ i, k ≤ bi i → lreg s1 (bi i * h) h = lreg s (bi i * h) h
  kp : Kp s s1 (k * h)
  only : Only (stF g gb fo) w wr
  fo : ∀ q, fo1 = some q → fo = some q ∨ w.heap.size ≤ q
  jp : w.heap.size ≤ jp

theorem lv_notjour {w : World} {B jp g : Nat} {A : Array Value} {x : LV} (hr : w.heap[jp]? = some (.cells A 139 (0, 0))) (hx : x.At w B g) : ¬ x.all jp := fun hk => by
  obtain ⟨A, t, h1, h2⟩ := LoAt.tag hx hk
  have := tags_apart hr h1
  subst this
  rcases h2 with h2 | h2 | h2 <;> exact absurd h2 (by decide)
theorem st_notjour {w : World} {B jp g gb : Nat} {fo : Option Nat} {s : BSt} {A : Array Value} (hr : w.heap[jp]? = some (.cells A 139 (0, 0))) (hs : StAt w B g gb fo s) : ¬ stF g gb fo jp := fun hk => by
  obtain ⟨A, t, h1, h2⟩ := hs.tag hk
  have := tags_apart hr h1
  subst this
  rcases h2 with h2 | h2 | h2 <;> exact absurd h2 (by decide)

theorem opn_step {w wr w2 : World} {B g gb : Nat} {fo fo1 : Option Nat} {s s1 : BSt} {h jp : Nat} {L : Bool → LV} {e : Ending} (i : Bool) (hS : OpnS w B g gb fo s h jp (bi i) wr fo1 s1 L) (hsafe : Safe s (2 * h)) (hfit : 2 * h ≤ s.n) (hB : B ≤ w.heap.size)
    (hp : OpenPost wr B g gb fo1 s1 (bi i * h) h e w2) : ∃ lg, e = .returned (.tuple #[.pointer (some ⟨lg, 0, none⟩), .int .i64 0]) ∧ w2.frozen? ⟨jp, bi i, none⟩ = false ∧ w2.cell? ⟨jp, bi i, none⟩ = some (.pointer none) ∧
      ∃ fo2 s2 L2, OpnS w B g gb fo s h jp (bi i + 1) (w2.setCell ⟨jp, bi i, none⟩ (.pointer (some ⟨lg, 0, none⟩))) fo2 s2 L2 := by
  obtain ⟨fo2, s2, d', E, hst, ho, hfo, hr⟩ := hp
  have hbi : bi i ≤ 1 := by cases i <;> decide
  have hbh : bi i * h ≤ 1 * h := Nat.mul_le_mul_right h hbi
  have hfit1 : bi i * h + h ≤ s1.n := by rw [hS.kp.n]; omega
  have hsafe1 : Safe s1 h := hsafe.kp hS.kp (by omega)
  rcases hr with ⟨rfl, hW, lg, bb, bc, vr, ps, he, hlo⟩ | ⟨_, hT, _⟩
  · obtain ⟨k1, k2, k3, k4, k5⟩ := opened_ok hfit1 hW
    obtain ⟨x, hx⟩ : ∃ x : LV, x = ⟨lg, bb, bc, vr, ps, d'⟩ := ⟨_, rfl⟩
    have hxA : x.At w2 wr.heap.size g := by rw [hx]; exact hlo
    have hxd : x.d = d' := by rw [hx]
    have hxl : x.lg = lg := by rw [hx]
    have hxf : ∀ k, x.all k → wr.heap.size ≤ k := LoAt.foot hxA
    have hBr : B ≤ wr.heap.size := Nat.le_trans hB hS.only.size
    have hjl := heap_lt hS.row
    have hrow2 : w2.heap[jp]? = _ := (ho.block jp hjl (st_notjour hS.row hS.st)).trans hS.row
    have o1 : Only (fun k => k = jp) w2 (w2.setCell ⟨jp, bi i, none⟩ (.pointer (some ⟨lg, 0, none⟩))) := set_only w2 jp (bi i) _
    have hwf : ∀ j, ¬ (bi i * h * 64 ≤ j ∧ j < (bi i * h + h) * 64) → s2.f j = s1.f j := fun j hj => by
      have e1 : s2.f j = if bi i * h * 64 + (lopen s1 (bi i * h) h).fin ≤ j ∧ j < (bi i * h + h) * 64 then 0 else s1.f j := hW.f j
      rw [e1, if_neg (by omega)]
    have hKp : Kp s s2 ((bi i + 1) * h) := hS.kp.trans hW.kp (by rw [Nat.add_mul]; omega)
    have hst2 : StAt (w2.setCell ⟨jp, bi i, none⟩ (.pointer (some ⟨lg, 0, none⟩))) B g gb fo2 s2 := hst.only o1 (fun _ hk e => st_notjour hrow2 hst (e ▸ hk))
    refine ⟨lg, he, row_free hrow2 _, ?_, fo2, s2, lset L i x, hst2, ?_, ?_, ?_, ?_, ?_, hKp, ?_, ?_, hS.jp⟩
    · rw [cell_of_row w2 jp (bi i) _ _ _ hrow2]
      cases i <;> rfl
    · rw [row_setCell hrow2]
      cases i
      · simp [lset, opn, bi, hxl]
      · simp [lset, opn, bi, hxl]
    · intro j hj
      rcases bool_two i j with rfl | rfl
      · rw [lset_same]
        refine ⟨(LoAt.mono hxA hBr).only o1 (fun k hk e => ?_), by rw [hxd]; exact k1, by rw [hxd]; exact k2, by rw [hxd]; exact k3, ?_⟩
        · subst e; have := hxf _ hk; omega
        · rw [hxd, k4, hS.reg j (Nat.le_refl _)]
      · rw [lset_other]
        have hlt : bi (!i) < bi i := by cases i <;> simp [bi] at hj ⊢
        obtain ⟨q1, q2, q3, q4, q5⟩ := hS.logs _ hlt
        have q6 : (L (!i)).At w2 B g := LoAt.only q1 ho (LoAt.apart q1 hS.st)
        refine ⟨LoAt.only q6 o1 (fun k hk e => lv_notjour hrow2 q6 (e ▸ hk)), q2.other hW.n hW.on ?_, q3, q4, q5⟩
        intro j h1 h2
        rw [q3] at h1 h2
        rw [q4] at h2
        exact hwf j (apart_reg h i j h1 h2)
    · intro j hj q hq
      rcases bool_two i j with rfl | rfl
      · rw [lset_same] at hq
        exact Nat.le_trans hS.only.size (hxf q hq)
      · rw [lset_other] at hq
        have hlt : bi (!i) < bi i := by cases i <;> simp [bi] at hj ⊢
        exact hS.new _ hlt q hq
    · intro hk q h1 h2
      cases i
      · simp [bi] at hk
      · have e1 : lset L true x false = L false := lset_other L true x
        rw [lset_same] at h2
        rw [e1] at h1
        have := hxf q h2
        have := LoAt.fresh (hS.logs false (by decide)).1 q h1
        omega
    · intro j hj
      cases i
      · cases j
        · simp [bi] at hj
        · rw [← hS.reg true (by decide)]
          exact lreg_of fun q h1 h2 => hwf q (apart_reg h false q h1 h2)
      · cases j <;> simp [bi] at hj
    · refine (hS.only.trans' ho (fun k hk => ?_)).trans' o1 (fun k hk => .inr (by rw [hk]; exact hS.jp))
      rcases hk with hk | hk | hk
      · exact .inl (.inl hk)
      · exact .inl (.inr (.inl hk))
      · rcases hS.fo k hk with h1 | h1
        · exact .inl (.inr (.inr h1))
        · exact .inr h1
    · intro q hq
      rcases hfo q hq with h1 | h1
      · exact hS.fo q h1
      · exact .inr (Nat.le_trans hS.only.size h1)
  · exact (hT.not hsafe1).elim

/-- both are open -/
theorem OpnS.jour {w wr : World} {B g gb : Nat} {fo fo1 : Option Nat} {s s1 : BSt} {h jp : Nat} {L : Bool → LV} (hS : OpnS w B g gb fo s h jp 2 wr fo1 s1 L) (hB : B ≤ w.heap.size) (h1 : 1 ≤ h) (h2 : h ≤ 16384) : JAt wr B jp g L false h false :=
  ⟨Nat.le_trans hB hS.jp, hS.row, fun i => (hS.logs i (by cases i <;> decide)).1, hS.ap (by decide), h1, h2, fun i => (hS.logs i (by cases i <;> decide)).2.2.1, fun i => (hS.logs i (by cases i <;> decide)).2.2.2.1⟩

end Go.Proofs.Ytbonapdainlpjaa
