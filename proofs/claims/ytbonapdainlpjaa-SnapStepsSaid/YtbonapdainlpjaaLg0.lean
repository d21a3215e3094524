/- Layer 35 (log), plain: records as bytes, one behind the other; what is torn is none; the room. No function of the program stands here. -/
import Derived.Test.YtbonapdainlpjaaVBspec
namespace Go.Proofs.Ytbonapdainlpjaa

/-- the first record, and how many bytes it has there -/
def lfirst (b : List UInt8) : Option (List UInt8 × Nat) :=
  if (vtake b).2.2 = 0 ∧ 1 ≤ (vtake b).1 ∧ (vtake b).1 ≤ 262144 ∧ b[(vtake b).2.1 + (vtake b).1]? = some 165 then
    some ((b.drop (vtake b).2.1).take (vtake b).1, (vtake b).2.1 + (vtake b).1 + 1) else none

def lstands (r : List UInt8) : List UInt8 := vput r.length ++ r ++ [165]
def lgood (r : List UInt8) : Prop := 1 ≤ r.length ∧ r.length ≤ 262144

theorem lstands_len (r : List UInt8) : (lstands r).length = (vput r.length).length + r.length + 1 := by simp [lstands]; omega

theorem lfirst_is {b r : List UInt8} {k : Nat} (h : lfirst b = some (r, k)) : lgood r ∧ k = (lstands r).length ∧ b = lstands r ++ b.drop k := by
  unfold lfirst at h
  split at h
  · rename_i hc
    obtain ⟨h0, h1, h2, h3⟩ := hc
    simp only [Option.some.injEq, Prod.mk.injEq] at h
    obtain ⟨rfl, rfl⟩ := h
    obtain ⟨g1, g2, g3, g4⟩ := vtake_good b h0
    generalize (vtake b).1 = n at h1 h2 h3 g1 g4 ⊢
    generalize (vtake b).2.1 = q at h3 g2 g3 g4 ⊢
    obtain ⟨h4, h5⟩ := List.getElem?_eq_some_iff.1 h3
    have hl : ((b.drop q).take n).length = n := by simp; omega
    have hs : lstands ((b.drop q).take n) = b.take (q + n + 1) := by
      unfold lstands
      rw [hl, g4, List.take_add_one, h3, List.take_add]
      rfl
    refine ⟨⟨by rw [hl]; exact h1, by rw [hl]; exact h2⟩, ?_, ?_⟩
    · rw [hs]; simp; omega
    · rw [hs, List.take_append_drop]
  · cases h

theorem lfirst_len {b r : List UInt8} {k : Nat} (h : lfirst b = some (r, k)) : 1 ≤ k ∧ k ≤ b.length := by
  obtain ⟨_, rfl, h2⟩ := lfirst_is h
  refine ⟨by rw [lstands_len]; omega, ?_⟩
  rw [h2]; simp

theorem lfirst_stands {r : List UInt8} (h : lgood r) (t : List UInt8) : lfirst (lstands r ++ t) = some (r, (lstands r).length) := by
  have hv := vtake_vput r.length (by have := h.2; omega) (r ++ [165] ++ t)
  have he : lstands r ++ t = vput r.length ++ (r ++ [165] ++ t) := by simp [lstands]
  unfold lfirst
  rw [he, hv]
  obtain ⟨h1, h2⟩ := h
  rw [if_pos ⟨rfl, h1, h2, by
    show (vput r.length ++ (r ++ [165] ++ t))[(vput r.length).length + r.length]? = _
    rw [List.getElem?_append_right (by omega), List.append_assoc, List.getElem?_append_right (by omega), Nat.add_sub_cancel_left, Nat.sub_self]
    rfl⟩]
  show some (((vput r.length ++ (r ++ [165] ++ t)).drop (vput r.length).length).take r.length, _) = _
  rw [List.drop_left, List.append_assoc, List.take_left, lstands_len]

def lgo : Nat → List UInt8 → List (List UInt8) × Nat
  | 0, _ => ([], 0)
  | f + 1, b => match lfirst b with
    | none => ([], 0)
    | some (r, k) => (r :: (lgo f (b.drop k)).1, k + (lgo f (b.drop k)).2)

theorem lfirst_nil : lfirst [] = none := by simp [lfirst, vtake, vgo]

theorem lgo_more : ∀ (f g : Nat) (b : List UInt8), b.length ≤ f → b.length ≤ g → lgo f b = lgo g b
  | 0, 0, _, _, _ => rfl
  | 0, g + 1, b, h, _ => by
    obtain rfl := List.eq_nil_of_length_eq_zero (by omega : b.length = 0)
    simp [lgo, lfirst_nil]
  | f + 1, 0, b, _, h => by
    obtain rfl := List.eq_nil_of_length_eq_zero (by omega : b.length = 0)
    simp [lgo, lfirst_nil]
  | f + 1, g + 1, b, h1, h2 => by
    rw [lgo, lgo]
    cases hf : lfirst b with
    | none => rfl
    | some x =>
      obtain ⟨r, k⟩ := x
      have hk := lfirst_len hf
      show (_, _) = (_, _)
      rw [lgo_more f g (b.drop k) (by simp; omega) (by simp; omega)]

/-- the records of a region's bytes, and its end -/
def lrecs (b : List UInt8) : List (List UInt8) × Nat := lgo b.length b

theorem lrecs_none {b : List UInt8} (h : lfirst b = none) : lrecs b = ([], 0) := by
  unfold lrecs
  cases hb : b.length with
  | zero => rfl
  | succ n => rw [lgo, h]
theorem lrecs_some {b r : List UInt8} {k : Nat} (h : lfirst b = some (r, k)) : lrecs b = (r :: (lrecs (b.drop k)).1, k + (lrecs (b.drop k)).2) := by
  have hk := lfirst_len h
  unfold lrecs
  obtain ⟨n, hn⟩ : ∃ n, b.length = n + 1 := ⟨b.length - 1, by omega⟩
  rw [hn, lgo, h]
  show (_, _) = (_, _)
  rw [lgo_more n (b.drop k).length (b.drop k) (by simp; omega) (Nat.le_refl _)]

def lall (rs : List (List UInt8)) : List UInt8 := rs.flatMap lstands
theorem lall_app (a b : List (List UInt8)) : lall (a ++ b) = lall a ++ lall b := by simp [lall]
theorem lall_one (r : List UInt8) : lall [r] = lstands r := by simp [lall]

theorem lrecs_stands {r : List UInt8} (h : lgood r) (t : List UInt8) : lrecs (lstands r ++ t) = (r :: (lrecs t).1, (lstands r).length + (lrecs t).2) := by
  rw [lrecs_some (lfirst_stands h t), List.drop_left]

theorem lrecs_all : ∀ (rs : List (List UInt8)) (_ : ∀ r ∈ rs, lgood r) (t : List UInt8), lrecs (lall rs ++ t) = (rs ++ (lrecs t).1, (lall rs).length + (lrecs t).2)
  | [], _, t => by simp [lall]
  | r :: rs, h, t => by
    have e : lall (r :: rs) ++ t = lstands r ++ (lall rs ++ t) := by simp [lall]
    rw [e, lrecs_stands (h r (by simp)), lrecs_all rs (fun x hx => h x (by simp [hx])) t]
    simp [lall]; omega

theorem lrecs_is : ∀ (n : Nat) (b : List UInt8), b.length ≤ n → (∀ r ∈ (lrecs b).1, lgood r) ∧ (lrecs b).2 = (lall (lrecs b).1).length ∧ b = lall (lrecs b).1 ++ b.drop (lrecs b).2 ∧ lfirst (b.drop (lrecs b).2) = none
  | 0, b, h => by
    obtain rfl := List.eq_nil_of_length_eq_zero (by omega : b.length = 0)
    rw [lrecs_none lfirst_nil]
    exact ⟨by simp, rfl, rfl, lfirst_nil⟩
  | n + 1, b, h => by
    cases hf : lfirst b with
    | none =>
      rw [lrecs_none hf]
      exact ⟨by simp, rfl, rfl, hf⟩
    | some x =>
      obtain ⟨r, k⟩ := x
      have hk := lfirst_len hf
      obtain ⟨i1, i2, i3, i4⟩ := lrecs_is n (b.drop k) (by simp; omega)
      obtain ⟨g1, g2, g3⟩ := lfirst_is hf
      rw [lrecs_some hf]
      refine ⟨?_, ?_, ?_, ?_⟩
      · intro y hy
        rcases List.mem_cons.1 hy with rfl | hy
        · exact g1
        · exact i1 y hy
      · show k + _ = _
        rw [i2]
        simp [lall, g2]
      · show b = lall (r :: _) ++ b.drop (k + _)
        rw [← List.drop_drop]
        have : lall (r :: (lrecs (b.drop k)).1) = lstands r ++ lall (lrecs (b.drop k)).1 := by simp [lall]
        rw [this, List.append_assoc, ← i3]
        exact g3
      · show lfirst (b.drop (k + _)) = none
        rw [← List.drop_drop]
        exact i4

theorem lrecs_good (b : List UInt8) : ∀ r ∈ (lrecs b).1, lgood r := (lrecs_is _ b (Nat.le_refl _)).1
theorem lrecs_len (b : List UInt8) : (lrecs b).2 = (lall (lrecs b).1).length := (lrecs_is _ b (Nat.le_refl _)).2.1
theorem lrecs_take (b : List UInt8) : b = lall (lrecs b).1 ++ b.drop (lrecs b).2 := (lrecs_is _ b (Nat.le_refl _)).2.2.1
theorem lrecs_rest (b : List UInt8) : lfirst (b.drop (lrecs b).2) = none := (lrecs_is _ b (Nat.le_refl _)).2.2.2
theorem lrecs_end (b : List UInt8) : (lrecs b).2 ≤ b.length := by
  have h := congrArg List.length (lrecs_take b)
  rw [List.length_append, ← lrecs_len] at h
  omega

theorem lfirst_zero (t : List UInt8) : lfirst (0 :: t) = none := by
  unfold lfirst
  rw [if_neg]
  rintro ⟨_, h1, _⟩
  simp [vtake, vgo] at h1

theorem lfirst_zeros (n : Nat) : lfirst (List.replicate n 0) = none := by
  cases n with
  | zero => exact lfirst_nil
  | succ n => rw [List.replicate_succ]; exact lfirst_zero _

/-- records, and noughts behind them -/
theorem lrecs_full (rs : List (List UInt8)) (h : ∀ r ∈ rs, lgood r) (t : List UInt8) (ht : lfirst t = none) : lrecs (lall rs ++ t) = (rs, (lall rs).length) := by
  rw [lrecs_all rs h, lrecs_none ht]; simp

/-- what is torn, or torn and wiped in part, is no record -/
theorem lfirst_torn (r X : List UInt8) (h1 : 1 ≤ r.length) (h2 : r.length ≤ 400) (hX : ∀ j, j < (lstands r).length → X[j]? = some 0 ∨ X[j]? = (lstands r)[j]?) (hl : X[(lstands r).length - 1]? ≠ some 165) : lfirst X = none := by
  have hlen := lstands_len r
  have hp := vput_pos r.length
  by_cases hs : r.length < 128
  · have hv := vput_small hs
    have e0 : (lstands r)[0]? = some (UInt8.ofNat r.length) := by simp [lstands, hv]
    have hvl : (vput r.length).length = 1 := by rw [hv]; rfl
    cases X with
    | nil => exact lfirst_nil
    | cons x t =>
      have h0 := hX 0 (by omega)
      rw [e0] at h0
      simp only [List.getElem?_cons_zero, Option.some.injEq] at h0
      rcases h0 with rfl | rfl
      · exact lfirst_zero t
      · have hn : (UInt8.ofNat r.length).toNat = r.length := by simp; omega
        have hv2 : vtake (UInt8.ofNat r.length :: t) = (r.length, 1, 0) := by
          have := vtake_vput r.length (by omega) t
          rw [hv] at this
          exact this
        unfold lfirst
        rw [if_neg]
        rintro ⟨_, _, _, h5⟩
        rw [hv2] at h5
        apply hl
        rw [hlen, hvl, Nat.add_sub_cancel]
        exact h5
  · have hv := vput_big hs
    have hv2 := vput_small (n := r.length / 128) (by omega)
    rw [hv2] at hv
    have hvl : (vput r.length).length = 2 := by rw [hv]; rfl
    have e0 : (lstands r)[0]? = some (UInt8.ofNat (128 + r.length % 128)) := by simp [lstands, hv]
    have e1 : (lstands r)[1]? = some (UInt8.ofNat (r.length / 128)) := by simp [lstands, hv]
    match X, hX, hl with
    | [], _, _ => exact lfirst_nil
    | [x], hX, hl => have := hX 1 (by omega); rw [e1] at this; simp at this
    | x :: y :: t, hX, hl =>
      have h0 := hX 0 (by omega)
      rw [e0] at h0
      simp only [List.getElem?_cons_zero, Option.some.injEq] at h0
      have h1' := hX 1 (by omega)
      rw [e1] at h1'
      simp only [List.getElem?_cons_succ, List.getElem?_cons_zero, Option.some.injEq] at h1'
      rcases h0 with rfl | rfl
      · exact lfirst_zero _
      · rcases h1' with rfl | rfl
        · unfold lfirst
          rw [if_neg]
          rintro ⟨h3, _⟩
          have hx : (UInt8.ofNat (128 + r.length % 128)).toNat = 128 + r.length % 128 := by simp; omega
          generalize UInt8.ofNat (128 + r.length % 128) = c at hx h3
          have hb : ¬ c.toNat < 128 := by omega
          simp [vtake, vgo, hb] at h3
        · have hv3 : vtake (UInt8.ofNat (128 + r.length % 128) :: UInt8.ofNat (r.length / 128) :: t) = (r.length, 2, 0) := by
            have := vtake_vput r.length (by omega) t
            rw [hv] at this
            exact this
          unfold lfirst
          rw [if_neg]
          rintro ⟨_, _, _, h5⟩
          rw [hv3] at h5
          apply hl
          rw [hlen, hvl, Nat.add_sub_cancel]
          exact h5

/-! the room -/
def lfits (free n : Nat) : Bool := decide ((vput n).length + n + 1 ≤ free)
def ldown (free : Nat) : Nat → Nat
  | 0 => 0
  | n + 1 => if lfits free (n + 1) then n + 1 else ldown free n
def lroom (free : Nat) : Nat := ldown free (min (free - 2) 262144)

theorem ldown_le (free : Nat) : ∀ k, ldown free k ≤ k
  | 0 => Nat.le_refl _
  | k + 1 => by
    rw [ldown]
    split
    · exact Nat.le_refl _
    · have := ldown_le free k; omega
theorem ldown_fits (free : Nat) : ∀ k, ldown free k = 0 ∨ lfits free (ldown free k) = true
  | 0 => .inl rfl
  | k + 1 => by
    rw [ldown]
    by_cases h : lfits free (k + 1) = true
    · rw [if_pos h]; exact .inr h
    · rw [if_neg h]; exact ldown_fits free k
theorem ldown_more (free k : Nat) (h : ∀ n, k < n → lfits free n = false) : ∀ m, k ≤ m → ldown free m = ldown free k
  | 0, hm => by obtain rfl : k = 0 := by omega
                rfl
  | m + 1, hm => by
    by_cases he : k = m + 1
    · rw [he]
    · rw [ldown, if_neg (by rw [h (m + 1) (by omega)]; simp)]
      exact ldown_more free k h m (by omega)
theorem ldown_top (free : Nat) : ∀ k n, 1 ≤ n → n ≤ k → lfits free n = true → n ≤ ldown free k
  | 0, n, h1, h2, _ => by omega
  | k + 1, n, h1, h2, h3 => by
    rw [ldown]
    split
    · exact h2
    · rename_i hc
      have : n ≠ k + 1 := by rintro rfl; exact hc h3
      exact ldown_top free k n h1 (by omega) h3
theorem lroom_ref (free : Nat) : ldown free (min free 262144) = lroom free := by
  unfold lroom
  by_cases h : free - 2 ≤ 262144
  · rw [show min (free - 2) 262144 = free - 2 by omega]
    refine ldown_more free (free - 2) (fun n hn => ?_) _ (by omega)
    unfold lfits
    have := vput_pos n
    exact decide_eq_false (by omega)
  · rw [show min (free - 2) 262144 = 262144 by omega, show min free 262144 = 262144 by omega]

theorem vput_mono : ∀ (b a : Nat), a ≤ b → (vput a).length ≤ (vput b).length := by
  intro b
  induction b using Nat.strongRecOn with
  | _ b ih =>
    intro a hab
    by_cases ha : a < 128
    · rw [vput_small ha]; exact vput_pos b
    · have hb : ¬ b < 128 := by omega
      rw [vput_big ha, vput_big hb]
      have := ih (b / 128) (by omega) (a / 128) (Nat.div_le_div_right hab)
      simp; omega
/-- what has more bytes than the room does not fit; what has not, does -/
theorem lroom_iff (free n : Nat) (h1 : 1 ≤ n) (h2 : n ≤ 262144) : n ≤ lroom free ↔ (vput n).length + n + 1 ≤ free := by
  constructor
  · intro h
    have hf : lfits free (lroom free) = true := by
      rcases ldown_fits free (min (free - 2) 262144) with h0 | h0
      · unfold lroom at h; rw [h0] at h; omega
      · exact h0
    have := of_decide_eq_true hf
    have := vput_mono _ _ h
    omega
  · intro h
    have := vput_pos n
    exact ldown_top free _ n h1 (by omega) (decide_eq_true h)
theorem lroom_max (free : Nat) : lroom free ≤ 262144 := Nat.le_trans (ldown_le _ _) (by omega)

end Go.Proofs.Ytbonapdainlpjaa
