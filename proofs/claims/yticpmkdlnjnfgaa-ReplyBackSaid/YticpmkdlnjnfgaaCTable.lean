/- Layer 2 (crc): the walk of the table. -/
import Derived.Test.YticpmkdlnjnfgaaVarint
import Derived.Test.YticpmkdlnjnfgaaCspec
namespace Go.Proofs.Yticpmkdlnjnfgaa
open Go.RowKit

def tcell (k i : Nat) : Value := .int .u32 ((if i < k then ctab i else 0 : Nat) : Int)
def tcells (k : Nat) : Array Value := ((List.range 16).map (tcell k)).toArray

theorem tcells_zero : tcells 0 = #[.int .u32 0, .int .u32 0, .int .u32 0, .int .u32 0, .int .u32 0, .int .u32 0, .int .u32 0, .int .u32 0, .int .u32 0, .int .u32 0, .int .u32 0, .int .u32 0, .int .u32 0, .int .u32 0, .int .u32 0, .int .u32 0] := by rfl

theorem tcells_lit : tcells 16 = #[.int .u32 ((ctab 0 : Nat) : Int), .int .u32 ((ctab 1 : Nat) : Int), .int .u32 ((ctab 2 : Nat) : Int), .int .u32 ((ctab 3 : Nat) : Int), .int .u32 ((ctab 4 : Nat) : Int), .int .u32 ((ctab 5 : Nat) : Int), .int .u32 ((ctab 6 : Nat) : Int), .int .u32 ((ctab 7 : Nat) : Int), .int .u32 ((ctab 8 : Nat) : Int), .int .u32 ((ctab 9 : Nat) : Int), .int .u32 ((ctab 10 : Nat) : Int), .int .u32 ((ctab 11 : Nat) : Int), .int .u32 ((ctab 12 : Nat) : Int), .int .u32 ((ctab 13 : Nat) : Int), .int .u32 ((ctab 14 : Nat) : Int), .int .u32 ((ctab 15 : Nat) : Int)] := by rfl
theorem tcells_size (k : Nat) : (tcells k).size = 16 := by simp [tcells]
theorem tcells_get (k i : Nat) (h : i < 16) : (tcells k)[i]? = some (tcell k i) := by simp [tcells, h]
theorem tcells_set (k : Nat) : (tcells k).setIfInBounds k (.int .u32 (ctab k : Nat)) = tcells (k + 1) := by
  apply Array.ext_getElem?
  intro i
  rw [Array.getElem?_setIfInBounds, tcells_size]
  by_cases hi : i < 16
  · rw [tcells_get (k + 1) i hi, tcells_get k i hi]
    by_cases e : k = i
    · subst e; simp [hi, tcell]
    · rw [if_neg e]
      unfold tcell
      by_cases h : i < k
      · simp [h, show i < k + 1 by omega]
      · simp [h, show ¬ i < k + 1 by omega]
  · have h1 : (tcells (k + 1))[i]? = none := Array.getElem?_eq_none (by rw [tcells_size]; omega)
    have h2 : (tcells k)[i]? = none := Array.getElem?_eq_none (by rw [tcells_size]; omega)
    rw [h1, h2]
    split
    · rw [if_neg (by omega)]
    · rfl

theorem u32_and1 (n : Nat) (h : n < 4294967296) : bits BinOp.and IntKind.u32 (n : Int) 1 = ((n % 2 : Nat) : Int) := by
  rw [u32_and _ _ (by omega) (by omega) (by omega) (by omega), show (1 : Int).toNat = 1 from rfl, nat_mask1, show (n : Int).toNat = n by omega]
theorem u32_and15 (n : Nat) (h : n < 4294967296) : bits BinOp.and IntKind.u32 (n : Int) 15 = ((n % 16 : Nat) : Int) := by
  rw [u32_and _ _ (by omega) (by omega) (by omega) (by omega), show (15 : Int).toNat = 15 from rfl, nat_mask4, show (n : Int).toNat = n by omega]
theorem u32_xorn (a b : Int) (h1 : 0 ≤ a) (h2 : a < 4294967296) (h3 : 0 ≤ b) (h4 : b < 4294967296) : bits BinOp.xor IntKind.u32 a b = ((a.toNat ^^^ b.toNat : Nat) : Int) := u32_xor a b h1 h2 h3 h4

set_option maxRecDepth 100000 in
set_option maxHeartbeats 400000 in
theorem table_any (w : World) : Calls Try.prog 115 #[] w fun e w' => e = .returned (.agg (tcells 16)) ∧ Below w.heap.size w w' := by
  obtain ⟨Z, hZ⟩ : ∃ Z, Z = tcells 0 := ⟨_, rfl⟩
  have hZ' := hZ
  rw [tcells_zero] at hZ'
  have HZ := Lib.hid hZ
  clear hZ
  go_enter Try.func115, Try.ntmps115
  go_wp2
  rw [← hZ']
  clear hZ'
  go_loopw [4] (fun i wr => ∃ k : Nat, k ≤ 16 ∧ i = .int .i64 k ∧ wr = (w.alloc (.cells Z 146)).alloc (.cells (tcells k) 146)) (fun i _ => 16 - (intOf i).toNat)
  case atStart => exact ⟨0, by omega, rfl, by rw [← HZ.out]⟩
  case round =>
    obtain ⟨k, hk, rfl, rfl⟩ := hrel
    obtain ⟨C, hC⟩ : ∃ C, C = tcells k := ⟨_, rfl⟩
    rw [← hC]
    have hsz : C.size = 16 := by rw [hC]; exact tcells_size k
    by_cases hlt : k < 16
    · have hg : C[k]? = some (.int .u32 0) := by rw [hC, tcells_get k k hlt]; simp [tcell]
      have hset := tcells_set k
      rw [← hC] at hset
      have HS := Lib.hid hset
      have HC := Lib.hid hC
      clear hset hC
      go_wp2
      go_loop [3, 9] (fun c j => ∃ n j' : Nat, j' ≤ 4 ∧ n < 4294967296 ∧ c = .int .u32 n ∧ j = .int .i64 j' ∧ Hid (citer (4 - j') n = ctab k)) (fun _ j => 4 - (intOf j).toNat)
      case atStart => exact ⟨k, 0, by omega, by omega, by go_num, rfl, rfl⟩
      case round =>
        obtain ⟨n, j, hj, hn, rfl, rfl, hc⟩ := hrel
        by_cases hj4 : j < 4
        · have ha := u32_and1 n hn
          have hx := u32_xorn ((n : Int) / 2) 3988292384 (by omega) (by omega) (by omega) (by omega)
          rw [show ((n : Int) / 2).toNat = n / 2 by omega] at hx
          have e1 : citer (4 - j) n = citer (4 - (j + 1)) (cstep n) := by rw [show 4 - j = (4 - (j + 1)) + 1 by omega]; rfl
          have E1 := Lib.hid e1
          clear e1
          by_cases ho : n % 2 = 1
          · have hq : (((n % 2 : Nat) : Int) == 1) = true := by simp; omega
            go_wp2
            go_round
            case rel =>
              refine ⟨cstep n, j + 1, by omega, cstep_lt n hn, ?_, by go_num, E1.out.symm.trans hc.out⟩
              unfold cstep
              rw [if_pos ho]
              rfl
            case measure => simp [intOf]; omega
          · have hq : (((n % 2 : Nat) : Int) == 1) = false := by simp; omega
            go_wp2
            go_round
            case rel =>
              refine ⟨cstep n, j + 1, by omega, cstep_lt n hn, ?_, by go_num, E1.out.symm.trans hc.out⟩
              unfold cstep
              rw [if_neg ho]
              congr 1
            case measure => simp [intOf]; omega
        · obtain rfl : j = 4 := by omega
          have hcn : n = ctab k := hc.out
          have HN := Lib.hid hcn
          clear hcn hc
          go_wp2
          go_roundw
          case rel =>
            refine ⟨k + 1, by omega, by go_num, ?_⟩
            rw [← HS.out, HN.out]
          case measure => simp [intOf]; omega
    · obtain rfl : k = 16 := by omega
      rw [hC, tcells_lit]
      clear hsz hC
      have hz := HZ.out
      rw [tcells_zero] at hz
      subst hz
      go_wp2
      exact bodyPost_ret (v := .agg (tcells 16)) (by rw [tcells_lit]; simp [results, Try.results115, go_sem]) rfl ⟨rfl, ((Below.refl _ _).alloc (Nat.le_refl _) _).alloc (by simp) _⟩


theorem tcells_one (k : Nat) : ∀ v ∈ (tcells k).toList, v.oneCell' = true := by
  intro v hv
  simp only [tcells, List.mem_map] at hv
  obtain ⟨i, _, rfl⟩ := hv
  rfl

end Go.Proofs.Yticpmkdlnjnfgaa
