/- Layers 15 and 19 (graph, version): a network as plain data, and the walks of the small functions. -/
import Derived.Test.YtbonapdainlpjaaVarint
import Derived.Test.YtbonapdainlpjaaBase
import Derived.Deep.RegionHeld3
import Derived.Lib.QuietBelow
set_option linter.unusedSimpArgs false
namespace Go.Proofs.Ytbonapdainlpjaa
open Go.RowKit Go.Sort

/-- a network: its version, its stops, its links -/
structure Net where
  ver : Int
  st : List (Int × Int)
  ln : List (Int × Int × Int)
def csS (s : Int × Int) : List Value := [.int .i64 s.1, .int .i64 s.2]
def csL (l : Int × Int × Int) : List Value := [.int .i64 l.1, .int .i64 l.2.1, .int .i64 l.2.2]
theorem layS : Lay 2 csS := ⟨fun _ => rfl, fun a u h => by simp only [csS, List.mem_cons, List.not_mem_nil, or_false] at h; rcases h with rfl | rfl <;> rfl, by decide⟩
theorem layL : Lay 3 csL := ⟨fun _ => rfl, fun a u h => by simp only [csL, List.mem_cons, List.not_mem_nil, or_false] at h; rcases h with rfl | rfl | rfl <;> rfl, by decide⟩
theorem info_stop : (Try.prog.info? 144).map (fun i => (i.zero, i.size, i.bytes)) = some (some (.agg #[.int .i64 0, .int .i64 0]), 2, 16) := by kernel_rfl
theorem info_link : (Try.prog.info? 146).map (fun i => (i.zero, i.size, i.bytes)) = some (some (.agg #[.int .i64 0, .int .i64 0, .int .i64 0]), 3, 24) := by kernel_rfl
theorem info_net : (Try.prog.info? 95).map (fun i => (i.zero, i.size, i.bytes)) = some (some (.agg #[.int .i64 0, .slice none 0 0, .slice none 0 0]), 3, 56) := by kernel_rfl
theorem elSt : ElTy Try.prog 92 144 (.agg #[.int .i64 0, .int .i64 0]) 2 16 := ⟨Try.underlying92, info_parts info_stop, rfl, by decide⟩
theorem elLn : ElTy Try.prog 93 146 (.agg #[.int .i64 0, .int .i64 0, .int .i64 0]) 3 24 := ⟨Try.underlying93, info_parts info_link, rfl, by decide⟩

def NetV (w : World) (n : Net) (vs vl : Value) : Prop := Gs 2 csS w vs n.st ∧ Gs 3 csL w vl n.ln
theorem NetV.below {w w' : World} {n : Net} {vs vl : Value} (h : NetV w n vs vl) (hb : Below w.heap.size w w') : NetV w' n vs vl := ⟨h.1.below hb, h.2.below hb⟩
def Net.agg (n : Net) (vs vl : Value) : Value := .agg #[.int .i64 n.ver, vs, vl]

def gwi (n a b : Int) : Bool := decide (a ≤ n) && decide (n ≤ b)
theorem gWithin_any (n a b : Int) (w : World) : Calls Try.prog 118 #[.int .i64 n, .int .i64 a, .int .i64 b] w fun e w' => e = .returned (.bool (gwi n a b)) ∧ w' = w := by
  unfold gwi
  go_enter Try.func118, Try.ntmps118
  by_cases h1 : a ≤ n
  · go_wp2
    go_ret
    exact ⟨ret_bool (by simp [h1] <;> omega), rfl⟩
  · go_wp2
    go_ret
    exact ⟨ret_bool (by simp [h1] <;> omega), rfl⟩

def gmay (x y : Int) : Bool := decide (0 ≤ x) && (decide (x < 67108864) && (decide (0 ≤ y) && decide (y < 67108864)))
theorem gMay_any (x y : Int) (w : World) : Calls Try.prog 121 #[.int .i64 x, .int .i64 y] w fun e w' => e = .returned (.bool (gmay x y)) ∧ w' = w := by
  unfold gmay
  go_enter Try.func121, Try.ntmps121
  by_cases h1 : 0 ≤ x
  · by_cases h2 : x < 67108864
    · by_cases h3 : 0 ≤ y
      · go_wp2
        go_ret
        exact ⟨ret_bool (by simp [h1, h2, h3] <;> omega), rfl⟩
      · go_wp2
        go_ret
        exact ⟨ret_bool (by simp [h3] <;> omega), rfl⟩
    · go_wp2
      go_ret
      exact ⟨ret_bool (by simp [h2] <;> omega), rfl⟩
  · go_wp2
    go_ret
    exact ⟨ret_bool (by simp [h1] <;> omega), rfl⟩
theorem rgMay_any (x y : Int) (w : World) : Calls Try.prog 107 #[.int .i64 x, .int .i64 y] w fun e w' => e = .returned (.bool (gmay x y)) ∧ w' = w := by
  unfold gmay
  go_enter Try.func107, Try.ntmps107
  by_cases h1 : 0 ≤ x
  · by_cases h2 : x < 67108864
    · by_cases h3 : 0 ≤ y
      · go_wp2
        go_ret
        exact ⟨ret_bool (by simp [h1, h2, h3] <;> omega), rfl⟩
      · go_wp2
        go_ret
        exact ⟨ret_bool (by simp [h3] <;> omega), rfl⟩
    · go_wp2
      go_ret
      exact ⟨ret_bool (by simp [h2] <;> omega), rfl⟩
  · go_wp2
    go_ret
    exact ⟨ret_bool (by simp [h1] <;> omega), rfl⟩

theorem gStop1_any (x y : Int) (w : World) : Calls Try.prog 120 #[.agg #[.int .i64 x, .int .i64 y]] w fun e w' => e = .returned (.bool (!gmay x y)) ∧ Below w.heap.size w w' := by
  obtain ⟨b, hb⟩ : ∃ b, gmay x y = b := ⟨_, rfl⟩
  have C := Lib.hid (fun V => gMay_any x y V)
  rw [hb] at C ⊢
  have HB := Lib.hid ((Below.refl w.heap.size w).alloc (Nat.le_refl _) (.cells #[.int .i64 x, .int .i64 y] 144))
  clear hb
  go_enter Try.func120, Try.ntmps120
  go_wp2_with fail
  refine (C.out _).mono ?_
  rintro e w2 ⟨rfl, rfl⟩
  go_wp2
  go_ret
  exact ⟨rfl, HB.out⟩

theorem vOf_any (n : Net) (vs vl : Value) (w : World) : Calls Try.prog 105 #[n.agg vs vl] w fun e w' => e = .returned (.int .i64 n.ver) ∧ Below w.heap.size w w' := by
  obtain ⟨k, st, ln⟩ := n
  unfold Net.agg
  simp only
  have HB := Lib.hid ((Below.refl w.heap.size w).alloc (Nat.le_refl _) (.cells #[.int .i64 k, vs, vl] 95))
  go_enter Try.func105, Try.ntmps105
  go_wp2
  go_ret
  exact ⟨rfl, HB.out⟩
theorem vOf1_any (n : Net) (vs vl : Value) (w : World) : Calls Try.prog 67 #[n.agg vs vl] w fun e w' => e = .returned (.int .i64 n.ver) ∧ Below w.heap.size w w' := by
  obtain ⟨k, st, ln⟩ := n
  unfold Net.agg
  simp only
  have HB := Lib.hid ((Below.refl w.heap.size w).alloc (Nat.le_refl _) (.cells #[.int .i64 k, vs, vl] 95))
  go_enter Try.func67, Try.ntmps67
  go_wp2
  go_ret
  exact ⟨rfl, HB.out⟩

def gfew (n : Net) : Bool := decide (n.st.length ≤ 60) && decide (n.ln.length ≤ 120)
theorem gFew_any (n : Net) (vs vl : Value) (w : World) (h : NetV w n vs vl) : Calls Try.prog 66 #[n.agg vs vl] w fun e w' => e = .returned (.bool (gfew n)) ∧ Below w.heap.size w w' := by
  obtain ⟨k, st, ln⟩ := n
  obtain ⟨a, c, rfl⟩ := h.1.shape
  obtain ⟨b, d, rfl⟩ := h.2.shape
  unfold Net.agg gfew
  simp only
  obtain ⟨x, hx⟩ : ∃ x, st.length = x := ⟨_, rfl⟩
  obtain ⟨y, hy⟩ : ∃ x, ln.length = x := ⟨_, rfl⟩
  rw [hx, hy]
  have HB := Lib.hid ((Below.refl w.heap.size w).alloc (Nat.le_refl _) (.cells #[.int .i64 k, .slice a x c, .slice b y d] 95))
  clear h hx hy
  go_enter Try.func66, Try.ntmps66
  by_cases h1 : x ≤ 60
  · have e1 : (x : Int) ≤ 60 := by omega
    by_cases h2 : y ≤ 120
    · have e2 : (y : Int) ≤ 120 := by omega
      go_wp2
      go_ret
      exact ⟨by simp [h1, h2], HB.out⟩
    · have e2 : ¬ (y : Int) ≤ 120 := by omega
      go_wp2
      go_ret
      exact ⟨by simp [h2], HB.out⟩
  · have e1 : ¬ (x : Int) ≤ 60 := by omega
    go_wp2
    go_ret
    exact ⟨by simp [h1], HB.out⟩

/-! cmp -/
theorem cNaN_any (x : Int) (w : World) : Calls Try.prog 127 #[.int .i64 x] w fun e w' => e = .returned (.bool false) ∧ w' = w := by
  have hx : (x != x) = false := by simp
  go_enter Try.func127, Try.ntmps127
  go_wp2
  go_ret
  exact ⟨rfl, rfl⟩
def icmp (a b : Int) : Int := if a < b then -1 else if b < a then 1 else 0
theorem cCmp_any (a b : Int) (w : World) : Calls Try.prog 126 #[.int .i64 a, .int .i64 b] w fun e w' => e = .returned (.int .i64 (icmp a b)) ∧ w' = w := by
  unfold icmp
  go_enter Try.func126, Try.ntmps126
  go_wp2_with fail
  refine (cNaN_any a w).mono ?_
  rintro e w2 ⟨rfl, rfl⟩
  go_wp2_with fail
  refine (cNaN_any b _).mono ?_
  rintro e w3 ⟨rfl, rfl⟩
  by_cases h1 : a < b
  · have e : (if a < b then (-1 : Int) else if b < a then 1 else 0) = -1 := if_pos h1
    have HE := Lib.hid e
    clear e
    go_wp2
    go_ret
    exact ⟨by first | rfl | (rw [HE.out]; rfl), rfl⟩
  · by_cases h2 : b < a
    · have e : (if a < b then (-1 : Int) else if b < a then 1 else 0) = 1 := by rw [if_neg h1, if_pos h2]
      have HE := Lib.hid e
      clear e
      go_wp2
      go_ret
      exact ⟨by first | rfl | (rw [HE.out]; rfl), rfl⟩
    · have e : (if a < b then (-1 : Int) else if b < a then 1 else 0) = 0 := by rw [if_neg h1, if_neg h2]
      have HE := Lib.hid e
      clear e
      go_wp2
      go_ret
      exact ⟨by first | rfl | (rw [HE.out]; rfl), rfl⟩

end Go.Proofs.Ytbonapdainlpjaa
