/- ShaL: ShaA, ShaL as one text. -/
import Derived.Test.YtjnbdeopoohnmaaGreatDoorShaW
import Derived.Test.YtjnbdeopoohnmaaGreatDoorShaU
import Derived.Test.YtjnbdeopoohnmaaGreatDoorShaQ
import Derived.KernelRfl
import Derived.Deep.RegionHeld3
/- Layer 7 (sha): the sum of "abc", reckoned. -/
namespace Go.Proofs.YtjnbdeopoohnmaaGreatDoor

/-- the words of the rounds, the newest first -/
def wnext (m : Nat → UInt32) (t : Nat) (l : List UInt32) : List UInt32 :=
  (if t < 16 then m t else l[15]?.getD 0 + (l[6]?.getD 0 + sig0 (l[14]?.getD 0) + sig1 (l[1]?.getD 0))) :: l
def wrev (m : Nat → UInt32) : Nat → List UInt32
  | 0 => []
  | t + 1 => wnext m t (wrev m t)
theorem wrev_at (m : Nat → UInt32) : ∀ t, (wrev m t).length = t ∧ ∀ j, j < t → (wrev m t)[j]? = some (sched m (t - 1 - j))
  | 0 => ⟨rfl, fun j h => by omega⟩
  | t + 1 => by
    obtain ⟨h1, h2⟩ := wrev_at m t
    refine ⟨by simp [wrev, wnext, h1], fun j hj => ?_⟩
    cases j with
    | zero =>
      simp only [wrev, wnext, List.getElem?_cons_zero]
      congr 1
      by_cases h : t < 16
      · rw [if_pos h, show t + 1 - 1 - 0 = t by omega, sched_lo m h]
      · rw [if_neg h, h2 15 (by omega), h2 6 (by omega), h2 14 (by omega), h2 1 (by omega), show t + 1 - 1 - 0 = t by omega, sched_hi m (by omega : 16 ≤ t)]
        simp only [Option.getD_some]
        rw [show t - 1 - 15 = t - 16 by omega, show t - 1 - 6 = t - 7 by omega, show t - 1 - 14 = t - 15 by omega, show t - 1 - 1 = t - 2 by omega]
    | succ j =>
      simp only [wrev, wnext, List.getElem?_cons_succ]
      rw [h2 j (by omega)]
      congr 2
      omega

def rlist (s : St) : List UInt32 → List UInt32 → St
  | k :: ks, w :: ws => rlist (rstep s k w) ks ws
  | _, _ => s
theorem rlist_snoc : ∀ (ks ws : List UInt32) (s : St) (k w : UInt32), ks.length = ws.length → rlist s (ks ++ [k]) (ws ++ [w]) = rstep (rlist s ks ws) k w
  | [], [], s, k, w, _ => rfl
  | k' :: ks, w' :: ws, s, k, w, h => by
    show rlist (rstep s k' w') (ks ++ [k]) (ws ++ [w]) = _
    rw [rlist_snoc ks ws _ k w (by simpa using h)]
    rfl
  | [], _ :: _, _, _, _, h => by simp at h
  | _ :: _, [], _, _, _, h => by simp at h
theorem rnds_list (K W : Nat → UInt32) (s : St) : ∀ t, rnds K W s t = rlist s ((List.range t).map K) ((List.range t).map W)
  | 0 => rfl
  | t + 1 => by
    rw [List.range_succ, List.map_append, List.map_append]
    show rstep (rnds K W s t) (K t) (W t) = _
    rw [rnds_list K W s t]
    exact (rlist_snoc _ _ _ _ _ (by simp)).symm
theorem ktab_map : (List.range 64).map shaK = ktab := by
  apply List.ext_getElem?
  intro i
  by_cases h : i < 64
  · rw [List.getElem?_map, List.getElem?_range h]
    show some (ktab[i]?.getD 0) = ktab[i]?
    rw [List.getElem?_eq_getElem (by exact h)]
    rfl
  · rw [List.getElem?_eq_none (by simp; omega), List.getElem?_eq_none (by show 64 ≤ i; omega)]
theorem sched_map (m : Nat → UInt32) : (List.range 64).map (sched m) = (wrev m 64).reverse := by
  obtain ⟨h1, h2⟩ := wrev_at m 64
  apply List.ext_getElem?
  intro i
  by_cases h : i < 64
  · rw [List.getElem?_map, List.getElem?_range h, List.getElem?_reverse (by omega), h1, h2 _ (by omega), show 64 - 1 - (64 - 1 - i) = i by omega]
    rfl
  · rw [List.getElem?_eq_none (by simp; omega), List.getElem?_eq_none (by simp [h1]; omega)]
theorem blk_list (s : St) (m : Nat → UInt32) : blk shaK s m = (rlist s ktab (wrev m 64).reverse).add s := by
  unfold blk
  rw [rnds_list, ktab_map, sched_map]

def abc : List UInt8 := [97, 98, 99]
def abcSum : List UInt8 := [0xba, 0x78, 0x16, 0xbf, 0x8f, 0x01, 0xcf, 0xea, 0x41, 0x41, 0x40, 0xde, 0x5d, 0xae, 0x22, 0x23, 0xb0, 0x03, 0x61, 0xa3, 0x96, 0x17, 0x7a, 0x9c, 0xb4, 0x10, 0xff, 0x61, 0xf2, 0x00, 0x15, 0xad]
theorem abc_sum : shaSum abc = abcSum := by
  have h : (abc ++ pad abc.length).length = 64 := by decide
  unfold shaSum
  rw [blks_go _ _ (by omega), blks_end _ _ (by rw [List.length_drop]; omega), blk_list]
  show shaOut ((rlist shaInit ktab (wrev (mword ((abc ++ pad abc.length).take 64)) 64).reverse).add shaInit) = abcSum
  decide +kernel

end Go.Proofs.YtjnbdeopoohnmaaGreatDoor
/- Layer 7 (sha): the walks of the statements ShaSums and ShaParts. -/
set_option linter.unusedSimpArgs false
namespace Go.Proofs.YtjnbdeopoohnmaaGreatDoor
open Go.RowKit Go.Sort

theorem parts_nil (w : World) (hT : Tabbed w) :
    Calls Tryz.prog 109 #[.slice none 0 0] w fun e w' => ∃ a c, e = .returned (.slice a 32 c) ∧ Below w.heap.size w w' := by
  refine (parts_any (.slice none 0 0) [] [] rfl w (Rd.nil _ 1) (fun i v l h => by simp at h) (by decide) hT).mono ?_
  rintro e w' ⟨v, rfl, ho, hb⟩
  obtain ⟨a, c, rfl⟩ := ho.shape
  exact ⟨a, c, by rw [shaSum_len], hb⟩

theorem rd_lit (w : World) (e : Nat) (cs : Array Value) (n : Nat) (hn : cs.size = n) (hm : n ≤ maxLen) : Rd (w.alloc (.cells cs e)) 1 (.slice (some ⟨w.heap.size, 0, none⟩) n n) n cs.toList := by
  subst hn
  exact Rd.of_own (World.ownsRow_lit w cs cs.size (Nat.le_refl _) hm (by omega))

end Go.Proofs.YtjnbdeopoohnmaaGreatDoor
