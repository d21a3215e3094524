/- FrameWhole: FramePut, FrameTake, FrameTake2, FrameWhole, FBspec as one text. -/
import Derived.Test.YticpmkdlnjnfgaaCrc
import Derived.Test.YticpmkdlnjnfgaaVBspec
import Derived.Test.YticpmkdlnjnfgaaBase
import Derived.Test.YticpmkdlnjnfgaaVTake
import Derived.Test.YticpmkdlnjnfgaaWriter
import Derived.Deep.RegionHeld3
/- Walks of Put of layer 4 (frame), of its reference, and of the statement FramePuts. -/
namespace Go.Proofs.Yticpmkdlnjnfgaa
open Go.RowKit

/-- a frame ahead of its checksum; a frame -/
def fhead (k : UInt8) (c : List UInt8) : List UInt8 := [199, k] ++ vput c.length ++ c
def fframe (k : UInt8) (c : List UInt8) : List UInt8 := fhead k c ++ cbytes (csum (fhead k c))

theorem csum_lt (l : List UInt8) : csum l < 4294967296 := cmore_lt 0 l
theorem cbytes_len (n : Nat) : (cbytes n).length = 4 := rfl

set_option maxRecDepth 100000 in
set_option maxHeartbeats 800000 in
theorem fput_any (k : UInt8) (K : Int) (hK : K = k.toNat) (y : Value) (c : List UInt8) (w : World) (hy : Bs w y c) (hc : c.length ≤ 1048576) :
    Calls Try.prog 80 #[.int .u8 K, y] w fun e w' => ∃ v, e = .returned (.tuple #[v, .int .i64 0]) ∧ Ob w' w.heap.size 5 v (fframe k c) ∧ Below w.heap.size w w' := by
  obtain ⟨a, ca, hs⟩ := hy.shape
  subst hs
  have hpn := vput_len10 c.length (by omega)
  have ho0 : Ob (w.alloc (.cells #[.int .u8 199, .int .u8 K] 5)) w.heap.size 5 (.slice (some ⟨w.heap.size, 0, none⟩) 2 2) [199, k] := ob_lit w 5 _ _ 2 rfl (by simp [maxLen]) (by simp [bv, hK])
  have hb0 : Below w.heap.size w (w.alloc (.cells #[.int .u8 199, .int .u8 K] 5)) := (Below.refl _ _).alloc (Nat.le_refl _) _
  clear hK
  go_enter Try.func80, Try.ntmps80
  go_wp2_with fail
  refine (put_int c.length (by omega) (by omega) _).mono ?_
  rintro e w1 ⟨v1, rfl, ho1, hb1⟩
  rw [show ((c.length : Int)).toNat = c.length by omega] at ho1
  have hA := ho0.below hb1
  have hw1 := hb0.trans (hb1.mono hb0.size)
  have hs1 := hw1.size
  go_wp2_with (first | (at_builtin; refine wpList_append_bytes hA ho1.bs elB (by simp; omega) (by simp; omega) hs1 ?_ _ _ rfl rfl rfl rfl; intro v2 w2 ho2 hg2 hb2 _; have hw2 := hw1.trans hb2; have hs2 := hw2.size; have hy2 := hy.below hw2) | (at_builtin; refine wpList_append_bytes ho2 hy2 elB (by simp; omega) (by simp; omega) hs2 ?_ _ _ rfl rfl rfl rfl; intro v3 w3 ho3 hg3 hb3 _; have hw3 := hw2.trans hb3; have hs3 := hw3.size; have HO3 := Lib.hid ho3; clear ho3 ho2 hA))
  have h3 : Ob w3 w.heap.size 5 v3 (fhead k c) := HO3.out
  clear HO3
  refine (sum_any _ _ _ h3.bs).mono ?_
  rintro e w4 ⟨rfl, hb4⟩
  go_wp2_with fail
  refine (cbytes_any _ (csum_lt _) _).mono ?_
  rintro e w5 ⟨v5, rfl, ho5, hb5⟩
  have h5 := (h3.below hb4).below hb5
  have hw5 := (hw3.trans (hb4.mono hs3)).trans (hb5.mono (by have := hb4.size; omega))
  have hs5 := hw5.size
  have hcl := cbytes_len (csum (fhead k c))
  have hfl : (fhead k c).length ≤ 1048590 := by simp [fhead]; omega
  have HCL : (cbytes (csum (fhead k c))).length ≤ 4 := by omega
  clear hcl
  go_wp2_with (at_builtin; go_must (refine wpList_append_bytes h5 ho5.bs elB (by omega) (by omega) hs5 ?_ _ _ rfl rfl rfl rfl); intro v6 w6 ho6 hg6 hb6 _; have HO6 := Lib.hid ho6; clear ho6)
  go_ret2
  exact ⟨_, rfl, HO6.out, hw5.trans hb6⟩

theorem fput_no (K : Int) (y : Value) (c : List UInt8) (w : World) (hy : Bs w y c) (hc : 1048576 < c.length) :
    Calls Try.prog 80 #[.int .u8 K, y] w fun e w' => e = .returned (.tuple #[.slice none 0 0, .int .i64 3]) ∧ Below w.heap.size w w' := by
  obtain ⟨a, ca, hs⟩ := hy.shape
  subst hs
  have hc' : (1048576 : Int) < c.length := by omega
  go_enter Try.func80, Try.ntmps80
  go_wp2
  go_ret2
  exact ⟨rfl, Below.refl _ _⟩

set_option maxRecDepth 100000 in
set_option maxHeartbeats 800000 in
theorem rfput_any (k : UInt8) (K : Int) (hK : K = k.toNat) (y : Value) (c : List UInt8) (w : World) (hy : Bs w y c) (hc : c.length ≤ 1048576) :
    Calls Try.prog 82 #[.int .u8 K, y] w fun e w' => ∃ v, e = .returned v ∧ Ob w' w.heap.size 5 v (fframe k c) ∧ Below w.heap.size w w' := by
  obtain ⟨a, ca, hs⟩ := hy.shape
  subst hs
  have hpn := vput_len10 c.length (by omega)
  have ho0 : Ob (w.alloc (.cells #[.int .u8 199, .int .u8 K] 5)) w.heap.size 5 (.slice (some ⟨w.heap.size, 0, none⟩) 2 2) [199, k] := ob_lit w 5 _ _ 2 rfl (by simp [maxLen]) (by simp [bv, hK])
  have hb0 : Below w.heap.size w (w.alloc (.cells #[.int .u8 199, .int .u8 K] 5)) := (Below.refl _ _).alloc (Nat.le_refl _) _
  clear hK
  go_enter Try.func82, Try.ntmps82
  go_wp2_with fail
  refine (rput_int c.length (by omega) (by omega) _).mono ?_
  rintro e w1 ⟨v1, rfl, ho1, hb1⟩
  rw [show ((c.length : Int)).toNat = c.length by omega] at ho1
  have hA := ho0.below hb1
  have hw1 := hb0.trans (hb1.mono hb0.size)
  have hs1 := hw1.size
  go_wp2_with (first | (at_builtin; refine wpList_append_bytes hA ho1.bs elB (by simp; omega) (by simp; omega) hs1 ?_ _ _ rfl rfl rfl rfl; intro v2 w2 ho2 hg2 hb2 _; have hw2 := hw1.trans hb2; have hs2 := hw2.size; have hy2 := hy.below hw2) | (at_builtin; refine wpList_append_bytes ho2 hy2 elB (by simp; omega) (by simp; omega) hs2 ?_ _ _ rfl rfl rfl rfl; intro v3 w3 ho3 hg3 hb3 _; have hw3 := hw2.trans hb3; have hs3 := hw3.size; have HO3 := Lib.hid ho3; clear ho3 ho2 hA))
  have h3 : Ob w3 w.heap.size 5 v3 (fhead k c) := HO3.out
  clear HO3
  refine (crsum_any _ _ _ h3.bs).mono ?_
  rintro e w4 ⟨rfl, rfl⟩
  go_wp2_with fail
  refine (rcbytes_any _ (csum_lt _) _).mono ?_
  rintro e w5 ⟨v5, rfl, ho5, hb5⟩
  have h5 := h3.below hb5
  have hw5 := hw3.trans (hb5.mono hs3)
  have hs5 := hw5.size
  have hcl := cbytes_len (csum (fhead k c))
  have hfl : (fhead k c).length ≤ 1048590 := by simp [fhead]; omega
  have HCL : (cbytes (csum (fhead k c))).length ≤ 4 := by omega
  clear hcl
  go_wp2_with (at_builtin; go_must (refine wpList_append_bytes h5 ho5.bs elB (by omega) (by omega) hs5 ?_ _ _ rfl rfl rfl rfl); intro v6 w6 ho6 hg6 hb6 _; have HO6 := Lib.hid ho6; clear ho6)
  go_ret
  exact ⟨_, rfl, HO6.out, hw5.trans hb6⟩

end Go.Proofs.Yticpmkdlnjnfgaa
/- Walks of Take and Whole of layer 4 (frame) and of its reference. -/
namespace Go.Proofs.Yticpmkdlnjnfgaa
open Go.RowKit

/-- what bytes begin with, as a frame: kind, content, how many bytes, the error's number -/
def ftake (b : List UInt8) : UInt8 × List UInt8 × Nat × Nat :=
  if b.length = 0 then (0, [], 0, 10)
  else if b[0]? ≠ some 199 then (0, [], 0, 11)
  else if b.length = 1 then (0, [], 0, 10)
  else if (vtake (b.drop 2)).2.2 ≠ 0 then (0, [], 0, (vtake (b.drop 2)).2.2)
  else if 1048576 < (vtake (b.drop 2)).1 then (0, [], 0, 3)
  else if b.length < 2 + (vtake (b.drop 2)).2.1 + (vtake (b.drop 2)).1 + 4 then (0, [], 0, 10)
  else if (b.drop (2 + (vtake (b.drop 2)).2.1 + (vtake (b.drop 2)).1)).take 4 ≠ cbytes (csum (b.take (2 + (vtake (b.drop 2)).2.1 + (vtake (b.drop 2)).1))) then (0, [], 0, 12)
  else (b[1]?.getD 0, (b.drop (2 + (vtake (b.drop 2)).2.1)).take (vtake (b.drop 2)).1, 2 + (vtake (b.drop 2)).2.1 + (vtake (b.drop 2)).1 + 4, 0)

theorem Bs.str {w : World} {v : Value} {l : List UInt8} (h : Bs w v l) : (convert 24 9 v).run Try.prog w = .ok (.string ⟨l.toArray⟩) w := by
  obtain ⟨_, a, c, rfl, h2, h3, h4, h5⟩ := h
  cases a with
  | none =>
    obtain rfl := h4 rfl
    have : l = [] := List.eq_nil_of_length_eq_zero (by omega)
    subst this
    rw [run_convert_bytes_string w 24 9 5 none _ _ Try.underlying24 Try.underlying5 Try.underlying9]
    rfl
  | some ad =>
    refine run_convert_bytes_back w 24 9 5 ad c l Try.underlying24 Try.underlying5 Try.underlying9 fun j hj => ?_
    rcases h5 with h5 | ⟨b, off, he, _, hc⟩
    · omega
    · cases he
      rw [Addr.add_lit]
      exact hc j _ (by simp [hj, bv])

theorem str_beq (la lb : List UInt8) : ((⟨la.toArray⟩ : ByteArray).toList == (⟨lb.toArray⟩ : ByteArray).toList) = (la == lb) := by
  rw [Go.ByteArray.toList_eq, Go.ByteArray.toList_eq]

theorem equal_any (va vb : Value) (la lb : List UInt8) (w : World) (ha : Bs w va la) (hb : Bs w vb lb) :
    Calls Try.prog 70 #[va, vb] w fun e w' => e = .returned (.bool (la == lb)) ∧ w = w' := by
  obtain ⟨a, ca, hs⟩ := ha.shape
  subst hs
  obtain ⟨b, cb, hs⟩ := hb.shape
  subst hs
  have h1 := ha.str
  have h2 := hb.str
  obtain ⟨sa, hsa⟩ : ∃ s : ByteArray, s = ⟨la.toArray⟩ := ⟨_, rfl⟩
  obtain ⟨sb, hsb⟩ : ∃ s : ByteArray, s = ⟨lb.toArray⟩ := ⟨_, rfl⟩
  rw [← hsa] at h1
  rw [← hsb] at h2
  have HA := Lib.hid hsa
  have HB := Lib.hid hsb
  clear hsa hsb ha hb
  go_enter Try.func70, Try.ntmps70
  go_wp2
  go_ret
  exact ⟨ret_bool (by rw [HA.out, HB.out, str_beq]), rfl⟩


def TakenPost (l : List UInt8) (w : World) (e : Ending) (w' : World) : Prop :=
  ∃ v, e = .returned (.tuple #[.int .u8 (ftake l).1.toNat, v, .int .i64 (ftake l).2.2.1, .int .i64 (ftake l).2.2.2]) ∧ Bs w' v (ftake l).2.1 ∧ Below w.heap.size w w'

def FTakeJ (w : World) (l : List UInt8) (y : Value) (a' : Act) (wr : World) : Prop :=
  ∃ (e : Nat) (u2 u3 u4 u6 u7 u8 u9 u10 u11 u12 u13 u14 u15 u16 u17 u18 u19 u20 u21 u22 u23 u24 u25 u26 u27 u28 u29 u30 u31 u32 u33 u34 u35 u36 u37 u38 u39 u40 u41 u42 u43 u44 u45 u46 u47 u48 u49 u50 u51 u52 u53 u54 u55 u56 u57 u58 u59 u60 u61 u62 u63 : Value), a' = { tmps := List.toArray ((y) :: (undef) :: (u2) :: (u3) :: (u4) :: (.int .i64 e) :: (u6) :: (u7) :: (u8) :: (u9) :: (u10) :: (u11) :: (u12) :: (u13) :: (u14) :: (u15) :: (u16) :: (u17) :: (u18) :: (u19) :: (u20) :: (u21) :: (u22) :: (u23) :: (u24) :: (u25) :: (u26) :: (u27) :: (u28) :: (u29) :: (u30) :: (u31) :: (u32) :: (u33) :: (u34) :: (u35) :: (u36) :: (u37) :: (u38) :: (u39) :: (u40) :: (u41) :: (u42) :: (u43) :: (u44) :: (u45) :: (u46) :: (u47) :: (u48) :: (u49) :: (u50) :: (u51) :: (u52) :: (u53) :: (u54) :: (u55) :: (u56) :: (u57) :: (u58) :: (u59) :: (u60) :: (u61) :: (u62) :: (u63) :: []), defers := [] } ∧ Hid (ftake l = (0, [], 0, e)) ∧ Below w.heap.size w wr

set_option maxRecDepth 100000 in
set_option maxHeartbeats 1600000 in
theorem ftake_any (y : Value) (l : List UInt8) (w : World) (hy : Bs w y l) (hl : l.length ≤ 1073741824) : Calls Try.prog 111 #[y] w (TakenPost l w) := by
  obtain ⟨a, ca, adr, hs, ha1, ha2, ha3, ha4, ha5⟩ := Bs.open_ elB hy
  subst hs
  go_enter Try.func111, Try.ntmps111
  go_wp2
  refine wp_scope_jumps 0 (FTakeJ w l (.slice a l.length ca)) (fun _ _ => 0) rfl ?_ ?_
  · by_cases c1 : l.length = 0
    · have q1 : ((l.length : Int) == 0) = true := by rw [beq_iff_eq]; omega
      have hf : Hid (ftake l = (0, [], 0, 10)) := by show _ = _; unfold ftake; rw [if_pos c1]
      clear c1
      go_wp2
      go_step3
      exact ⟨rfl, 10, _, _, _, _, _, _, _, _, _, _, _, _, _, _, _, _, _, _, _, _, _, _, _, _, _, _, _, _, _, _, _, _, _, _, _, _, _, _, _, _, _, _, _, _, _, _, _, _, _, _, _, _, _, _, _, _, _, _, _, _, _, rfl, hf, Below.refl _ _⟩
    · have q1 : ((l.length : Int) == 0) = false := by rw [beq_eq_false_iff_ne]; omega
      have x00 : ∀ W : World, (Instr.indexAt 24 (.slice a l.length ca) (.int .i64 0)).run Try.prog W = .ok (.pointer (some (adr 0))) W := fun W => ha3 W 0 (by omega) (by omega)
      obtain ⟨x, hx⟩ : ∃ x, l[0]? = some x := ⟨_, List.getElem?_eq_getElem (by omega)⟩
      have h0 : w.cell? (adr 0) = some (.int .u8 x.toNat) := ha5 0 x hx
      by_cases c2 : x = 199
      · have q2 : ((x.toNat : Int) != 199) = false := by rw [c2]; rfl
        by_cases c3 : l.length = 1
        · have q3 : ((l.length : Int) == 1) = true := by rw [beq_iff_eq]; omega
          have hf : Hid (ftake l = (0, [], 0, 10)) := by show _ = _; unfold ftake; rw [if_neg c1, if_neg (by rw [hx, c2]; simp), if_pos c3]
          clear c1 c2 c3 hx
          go_wp2
          go_step3
          exact ⟨rfl, 10, _, _, _, _, _, _, _, _, _, _, _, _, _, _, _, _, _, _, _, _, _, _, _, _, _, _, _, _, _, _, _, _, _, _, _, _, _, _, _, _, _, _, _, _, _, _, _, _, _, _, _, _, _, _, _, _, _, _, _, _, _, rfl, hf, Below.refl _ _⟩
        · have q3 : ((l.length : Int) == 1) = false := by rw [beq_eq_false_iff_ne]; omega
          have hlen2 : (2 : Int) ≤ l.length := by omega
          obtain ⟨n, k, f, hv⟩ : ∃ n k f, vtake (l.drop 2) = (n, k, f) := ⟨_, _, _, rfl⟩
          obtain ⟨Y, hY, hd⟩ := hy.from elB 2 (by omega)
          have hY' : ∀ W : World, (Instr.sliceAt 24 (.slice a l.length ca) (some (.int .i64 2)) none none).run Try.prog W = .ok Y W := hY
          clear hY
          have htk := take_any _ _ w hd
          rw [hv] at htk
          have HTK := Lib.hid htk
          have hgood := vtake_good (l.drop 2)
          rw [hv] at hgood
          have HG := Lib.hid hgood
          have hfx : Hid (ftake l = if f ≠ 0 then (0, [], 0, f) else if 1048576 < n then (0, [], 0, 3) else if l.length < 2 + k + n + 4 then (0, [], 0, 10) else if (l.drop (2 + k + n)).take 4 ≠ cbytes (csum (l.take (2 + k + n))) then (0, [], 0, 12)
              else (l[1]?.getD 0, (l.drop (2 + k)).take n, 2 + k + n + 4, 0)) := by
            show _ = _; unfold ftake; rw [if_neg c1, if_neg (by rw [hx, c2]; simp), if_neg c3, hv]
          have x01 : ∀ W : World, (Instr.indexAt 24 (.slice a l.length ca) (.int .i64 1)).run Try.prog W = .ok (.pointer (some (adr 1))) W := fun W => ha3 W 1 (by omega) (by omega)
          obtain ⟨x1, hx1⟩ : ∃ x, l[1]? = some x := ⟨_, List.getElem?_eq_getElem (by omega)⟩
          have h1c : w.cell? (adr 1) = some (.int .u8 x1.toNat) := ha5 1 x1 hx1
          have HX1 := Lib.hid hx1
          have hb1 : (adr 1).block < w.heap.size := ha4 1 (by omega)
          clear htk hgood hv hd c1 c2 c3 hx hx1 ha4 ha5
          go_wp2_with fail
          refine HTK.out.mono ?_
          rintro e w1 ⟨rfl, hw1⟩
          clear hY' HTK
          by_cases c4 : f = 0
          · subst c4
            obtain ⟨hn, hk1, hk2, hput⟩ := HG.out rfl
            try simp only at hn hk1 hk2 hput
            have HP := Lib.hid hput
            clear hput HG
            have hk3 : k ≤ l.length - 2 := by rw [List.length_drop] at hk2; exact hk2
            clear hk2
            by_cases c5 : 1048576 < n
            · have hf : Hid (ftake l = (0, [], 0, 3)) := by show _ = _; rw [hfx.out, if_neg (by omega), if_pos c5]
              go_wp2
              go_step3
              exact ⟨rfl, 3, _, _, _, _, _, _, _, _, _, _, _, _, _, _, _, _, _, _, _, _, _, _, _, _, _, _, _, _, _, _, _, _, _, _, _, _, _, _, _, _, _, _, _, _, _, _, _, _, _, _, _, _, _, _, _, _, _, _, _, _, _, rfl, hf, hw1⟩
            · by_cases c6 : l.length < 2 + k + n + 4
              · have hf : Hid (ftake l = (0, [], 0, 10)) := by show _ = _; rw [hfx.out, if_neg (by omega), if_neg c5, if_pos c6]
                go_wp2
                go_step3
                exact ⟨rfl, 10, _, _, _, _, _, _, _, _, _, _, _, _, _, _, _, _, _, _, _, _, _, _, _, _, _, _, _, _, _, _, _, _, _, _, _, _, _, _, _, _, _, _, _, _, _, _, _, _, _, _, _, _, _, _, _, _, _, _, _, _, _, rfl, hf, hw1⟩
              · obtain ⟨m, hm⟩ : ∃ m, m = 2 + k + n := ⟨_, rfl⟩
                rw [← hm] at c6
                have hfx2 : Hid (ftake l = if (l.drop m).take 4 ≠ cbytes (csum (l.take m)) then (0, [], 0, 12) else (l[1]?.getD 0, (l.drop (2 + k)).take n, m + 4, 0)) := by
                  show _ = _; rw [hfx.out, if_neg (by omega), if_neg c5, ← hm, if_neg c6]
                obtain ⟨Y1, hY1, hd1⟩ := hy.piece elB m (m + 4) (by omega) (by omega)
                obtain ⟨Y2, hY2, hd2⟩ := hy.upto elB m (by omega)
                obtain ⟨Y3, hY3, hd3⟩ := hy.piece elB (2 + k) m (by omega) (by omega)
                have hme : (2 : Int) + k + n = (m : Int) := by omega
                have hm4 : ((m + 4 : Nat) : Int) = (m : Int) + 4 := by omega
                have hk22 : ((2 + k : Nat) : Int) = 2 + (k : Int) := by omega
                rw [hm4] at hY1
                rw [hk22] at hY3
                have hw4 : IntKind.i64.wrap ((m : Int) + 4) = (m : Int) + 4 := IntWalk.i64_in _ (by constructor <;> omega)
                have hw5 : IntKind.i64.wrap (2 + (k : Int)) = 2 + (k : Int) := IntWalk.i64_in _ (by constructor <;> omega)
                have hmn : (l.drop (2 + k)).take (m - (2 + k)) = (l.drop (2 + k)).take n := by congr 1; omega
                rw [hmn] at hd3
                have hm4' : m + 4 - m = 4 := by omega
                rw [hm4'] at hd1
                have h1w : w1.cell? (adr 1) = some (.int .u8 x1.toNat) := (hw1.cell hb1).trans h1c
                have hbd1 := hd1.below hw1
                have hbd2 := hd2.below hw1
                have hbd3 := hd3.below hw1
                clear hm hmn hm4 hm4' hk22 ha3 hfx
                have hcm : (m : Int) + 4 ≤ l.length := by omega
                go_wp2
                by_cases c7 : (l.drop m).take 4 = cbytes (csum (l.take m))
                · have heq : Hid (((l.drop m).take 4 == cbytes (csum (l.take m))) = true) := by show _ = _; simp [c7]
                  have hf : Hid (ftake l = (l[1]?.getD 0, (l.drop (2 + k)).take n, m + 4, 0)) := by show _ = _; rw [hfx2.out, if_neg (by simpa using c7)]
                  clear c7
                  go_region_held3 (fun _ => True) (exact trivial) (first | (go_at_call 108; refine (sum_any _ _ _ hbd2.drew).mono ?_; rintro e w2 ⟨rfl, hw2⟩) | (go_at_call 107; refine (cbytes_any _ (csum_lt _) _).mono ?_; rintro e w3 ⟨v3, rfl, ho3, hw3⟩) | (go_at_call 70; refine (equal_any _ _ _ _ _ ((hbd1.drew.below hw2).below hw3) ho3.bs).mono ?_; rintro e w4 ⟨rfl, rfl⟩; rw [heq.out]))
                  have hW3 : Below w1.heap.size w1 w3 := (((Below.refl _ _).drew).trans (hw2.mono (Nat.le_refl _))).trans (hw3.mono (by have := hw2.size; exact this))
                  have hwW3 := hw1.trans (hW3.mono hw1.size)
                  have h1w3 : w3.cell? (adr 1) = some (.int .u8 x1.toNat) := (hwW3.cell hb1).trans h1c
                  have hb13 : (adr 1).block < w3.heap.size := by have := hwW3.size; omega
                  have hbd33 := (hd3.below hwW3).drew
                  have H3 := Lib.hid ho3
                  clear ho3
                  go_wp2
                  go_region_held3 (fun w' => w'.cell? (adr 1) = some (.int .u8 x1.toNat)) (go_keep) (first | (go_at_call 97; refine (clone_any _ _ _ hbd33 (by simp; omega)).mono ?_; rintro e w5 ⟨v5, rfl, ho5, hw5⟩; have g5 := (hw5.cell hb13).trans h1w3))
                  go_wp2
                  simp only [Exit.jump]
                  refine bodyPost_ret (v := .tuple #[.int .u8 x1.toNat, v5, .int .i64 ((m : Int) + 4), .int .i64 0]) (by simp [results, Try.results111, go_sem]) rfl ⟨v5, ?_, ?_, ?_⟩
                  · rw [hf.out, HX1.out]; rfl
                  · rw [hf.out]; exact ho5.bs
                  · exact hwW3.drew.trans (hw5.mono hwW3.size)
                · have heq : Hid (((l.drop m).take 4 == cbytes (csum (l.take m))) = false) := by show _ = _; simp [c7]
                  have hf : Hid (ftake l = (0, [], 0, 12)) := by show _ = _; rw [hfx2.out, if_pos c7]
                  clear c7
                  go_region_held3 (fun _ => True) (exact trivial) (first | (go_at_call 108; refine (sum_any _ _ _ hbd2.drew).mono ?_; rintro e w2 ⟨rfl, hw2⟩) | (go_at_call 107; refine (cbytes_any _ (csum_lt _) _).mono ?_; rintro e w3 ⟨v3, rfl, ho3, hw3⟩) | (go_at_call 70; refine (equal_any _ _ _ _ _ ((hbd1.drew.below hw2).below hw3) ho3.bs).mono ?_; rintro e w4 ⟨rfl, rfl⟩; rw [heq.out]))
                  have hW3 : Below w1.heap.size w1 w3 := (((Below.refl _ _).drew).trans (hw2.mono (Nat.le_refl _))).trans (hw3.mono (by have := hw2.size; exact this))
                  have hwW3 := hw1.trans (hW3.mono hw1.size)
                  clear ho3
                  go_wp2
                  go_step3
                  exact ⟨rfl, 12, _, _, _, _, _, _, _, _, _, _, _, _, _, _, _, _, _, _, _, _, _, _, _, _, _, _, _, _, _, _, _, _, _, _, _, _, _, _, _, _, _, _, _, _, _, _, _, _, _, _, _, _, _, _, _, _, _, _, _, _, _, rfl, hf, hwW3⟩
          · have hf : Hid (ftake l = (0, [], 0, f)) := by show _ = _; rw [hfx.out, if_pos c4]
            have q4 : ((f : Int) != 0) = true := by rw [bne_iff_ne]; omega
            clear c4
            go_wp2
            go_step3
            exact ⟨rfl, f, _, _, _, _, _, _, _, _, _, _, _, _, _, _, _, _, _, _, _, _, _, _, _, _, _, _, _, _, _, _, _, _, _, _, _, _, _, _, _, _, _, _, _, _, _, _, _, _, _, _, _, _, _, _, _, _, _, _, _, _, _, rfl, hf, hw1⟩
      · have q2 : ((x.toNat : Int) != 199) = true := by
          rw [bne_iff_ne]; intro h; apply c2; apply UInt8.toNat_inj.1; have : (199 : UInt8).toNat = 199 := rfl; omega
        have hf : Hid (ftake l = (0, [], 0, 11)) := by show _ = _; unfold ftake; rw [if_neg c1, if_pos (by rw [hx]; simpa using c2)]
        clear c1 c2 hx
        go_wp2
        go_step3
        exact ⟨rfl, 11, _, _, _, _, _, _, _, _, _, _, _, _, _, _, _, _, _, _, _, _, _, _, _, _, _, _, _, _, _, _, _, _, _, _, _, _, _, _, _, _, _, _, _, _, _, _, _, _, _, _, _, _, _, _, _, _, _, _, _, _, _, rfl, hf, Below.refl _ _⟩
  · rintro a' wr ⟨e, u2, u3, u4, u6, u7, u8, u9, u10, u11, u12, u13, u14, u15, u16, u17, u18, u19, u20, u21, u22, u23, u24, u25, u26, u27, u28, u29, u30, u31, u32, u33, u34, u35, u36, u37, u38, u39, u40, u41, u42, u43, u44, u45, u46, u47, u48, u49, u50, u51, u52, u53, u54, u55, u56, u57, u58, u59, u60, u61, u62, u63, rfl, hf, hb⟩
    have HF := Lib.hid hf.out
    clear hf
    go_wp2
    simp only [Exit.jump]
    refine bodyPost_ret (v := .tuple #[.int .u8 0, .slice none 0 0, .int .i64 0, .int .i64 e]) (by simp [results, Try.results111, go_sem]) rfl ⟨.slice none 0 0, ?_, ?_, hb⟩
    · rw [HF.out]; rfl
    · rw [HF.out]; exact Rd.nil _ _


end Go.Proofs.Yticpmkdlnjnfgaa
/- The walk of Take of layer 4's reference. -/
namespace Go.Proofs.Yticpmkdlnjnfgaa
open Go.RowKit

theorem take_head (l : List UInt8) (x1 : UInt8) (n k m : Nat) (h0 : l[0]? = some 199) (h1 : l[1]? = some x1) (hk : vput n = (l.drop 2).take k) (hm : m = 2 + k + n) (hl : m ≤ l.length) :
    l.take m = fhead x1 ((l.drop (2 + k)).take n) := by
  match l, h0, h1 with
  | a :: b :: r, h0, h1 =>
    simp at h0 h1
    subst h0 h1
    simp only [List.drop_succ_cons, List.drop_zero] at hk
    have hlen : ((List.drop (2 + k) (199 :: b :: r)).take n).length = n := by
      simp only [List.length_take, List.length_drop, List.length_cons] at *
      omega
    unfold fhead
    rw [hlen, hk, hm]
    have e : 2 + k = k + 2 := by omega
    rw [e, show k + 2 + n = (k + n) + 2 by omega]
    simp only [List.take_succ_cons, List.drop_succ_cons, List.cons_append, List.nil_append]
    rw [List.take_add]

theorem take_frame (l : List UInt8) (x1 : UInt8) (n k m : Nat) (h0 : l[0]? = some 199) (h1 : l[1]? = some x1) (hk : vput n = (l.drop 2).take k) (hm : m = 2 + k + n) (hl : m + 4 ≤ l.length) :
    (fframe x1 ((l.drop (2 + k)).take n) == l.take (m + 4)) = ((l.drop m).take 4 == cbytes (csum (l.take m))) := by
  unfold fframe
  rw [← take_head l x1 n k m h0 h1 hk hm (by omega), List.take_add, Bool.eq_iff_iff, beq_iff_eq, beq_iff_eq, List.append_cancel_left_eq]
  exact ⟨fun h => h.symm, fun h => h.symm⟩

set_option maxRecDepth 100000 in
set_option maxHeartbeats 1600000 in
theorem rftake_any (y : Value) (l : List UInt8) (w : World) (hy : Bs w y l) (hl : l.length ≤ 1048576) : Calls Try.prog 106 #[y] w (TakenPost l w) := by
  obtain ⟨a, ca, adr, hs, ha1, ha2, ha3, ha4, ha5⟩ := Bs.open_ elB hy
  subst hs
  by_cases c1 : l.length = 0
  · have q1 : ((l.length : Int) == 0) = true := by rw [beq_iff_eq]; omega
    have hf : Hid (ftake l = (0, [], 0, 10)) := by show _ = _; unfold ftake; rw [if_pos c1]
    clear c1
    go_enter Try.func106, Try.ntmps106
    go_wp2
    refine bodyPost_ret (v := .tuple #[.int .u8 0, .slice none 0 0, .int .i64 0, .int .i64 10]) (by simp [results, Try.results106, go_sem]) rfl ⟨.slice none 0 0, ?_, ?_, Below.refl _ _⟩
    · rw [hf.out]; rfl
    · rw [hf.out]; exact Rd.nil _ _
  · have q1 : ((l.length : Int) == 0) = false := by rw [beq_eq_false_iff_ne]; omega
    have x00 : ∀ W : World, (Instr.indexAt 24 (.slice a l.length ca) (.int .i64 0)).run Try.prog W = .ok (.pointer (some (adr 0))) W := fun W => ha3 W 0 (by omega) (by omega)
    obtain ⟨x, hx⟩ : ∃ x, l[0]? = some x := ⟨_, List.getElem?_eq_getElem (by omega)⟩
    have h0 : w.cell? (adr 0) = some (.int .u8 x.toNat) := ha5 0 x hx
    by_cases c2 : x = 199
    · have q2 : ((x.toNat : Int) != 199) = false := by rw [c2]; rfl
      by_cases c3 : l.length = 1
      · have q3 : (l.length : Int) < 2 := by omega
        have hf : Hid (ftake l = (0, [], 0, 10)) := by show _ = _; unfold ftake; rw [if_neg c1, if_neg (by rw [hx, c2]; simp), if_pos c3]
        clear c1 c2 c3 hx
        go_enter Try.func106, Try.ntmps106
        go_wp2
        refine bodyPost_ret (v := .tuple #[.int .u8 0, .slice none 0 0, .int .i64 0, .int .i64 10]) (by simp [results, Try.results106, go_sem]) rfl ⟨.slice none 0 0, ?_, ?_, Below.refl _ _⟩
        · rw [hf.out]; rfl
        · rw [hf.out]; exact Rd.nil _ _
      · have hlen2 : (2 : Int) ≤ l.length := by omega
        obtain ⟨n, k, f, hv⟩ : ∃ n k f, vtake (l.drop 2) = (n, k, f) := ⟨_, _, _, rfl⟩
        obtain ⟨Y, hY, hd⟩ := hy.from elB 2 (by omega)
        have hY' : ∀ W : World, (Instr.sliceAt 24 (.slice a l.length ca) (some (.int .i64 2)) none none).run Try.prog W = .ok Y W := hY
        clear hY
        have htk := rtake_any _ _ w hd
        rw [hv] at htk
        have HTK := Lib.hid htk
        have hgood := vtake_good (l.drop 2)
        rw [hv] at hgood
        have HG := Lib.hid hgood
        have hfx : Hid (ftake l = if f ≠ 0 then (0, [], 0, f) else if 1048576 < n then (0, [], 0, 3) else if l.length < 2 + k + n + 4 then (0, [], 0, 10) else if (l.drop (2 + k + n)).take 4 ≠ cbytes (csum (l.take (2 + k + n))) then (0, [], 0, 12)
            else (l[1]?.getD 0, (l.drop (2 + k)).take n, 2 + k + n + 4, 0)) := by
          show _ = _; unfold ftake; rw [if_neg c1, if_neg (by rw [hx, c2]; simp), if_neg c3, hv]
        have x01 : ∀ W : World, (Instr.indexAt 24 (.slice a l.length ca) (.int .i64 1)).run Try.prog W = .ok (.pointer (some (adr 1))) W := fun W => ha3 W 1 (by omega) (by omega)
        obtain ⟨x1, hx1⟩ : ∃ x, l[1]? = some x := ⟨_, List.getElem?_eq_getElem (by omega)⟩
        have h1c : w.cell? (adr 1) = some (.int .u8 x1.toNat) := ha5 1 x1 hx1
        have HX1 := Lib.hid hx1
        have HX0 : Hid (l[0]? = some 199) := by rw [← c2]; exact hx
        have hb1 : (adr 1).block < w.heap.size := ha4 1 (by omega)
        clear htk hgood hv c1 c2 c3 hx hx1 ha4 ha5
        go_enter Try.func106, Try.ntmps106
        go_wp2_with fail
        refine HTK.out.mono ?_
        rintro e w1 ⟨rfl, hw1⟩
        clear hY' HTK
        by_cases c4 : f = 0
        · subst c4
          obtain ⟨hn, hk1, hk2, hput⟩ := HG.out rfl
          try simp only at hn hk1 hk2 hput
          have HP := Lib.hid hput
          clear hput HG
          have hk3 : k ≤ l.length - 2 := by rw [List.length_drop] at hk2; exact hk2
          clear hk2
          by_cases c5 : 1048576 < n
          · have hf : Hid (ftake l = (0, [], 0, 3)) := by show _ = _; rw [hfx.out, if_neg (by omega), if_pos c5]
            go_wp2
            refine bodyPost_ret (v := .tuple #[.int .u8 0, .slice none 0 0, .int .i64 0, .int .i64 3]) (by simp [results, Try.results106, go_sem]) rfl ⟨.slice none 0 0, ?_, ?_, hw1⟩
            · rw [hf.out]; rfl
            · rw [hf.out]; exact Rd.nil _ _
          · by_cases c6 : l.length < 2 + k + n + 4
            · have hf : Hid (ftake l = (0, [], 0, 10)) := by show _ = _; rw [hfx.out, if_neg (by omega), if_neg c5, if_pos c6]
              go_wp2
              refine bodyPost_ret (v := .tuple #[.int .u8 0, .slice none 0 0, .int .i64 0, .int .i64 10]) (by simp [results, Try.results106, go_sem]) rfl ⟨.slice none 0 0, ?_, ?_, hw1⟩
              · rw [hf.out]; rfl
              · rw [hf.out]; exact Rd.nil _ _
            · obtain ⟨m, hm⟩ : ∃ m, m = 2 + k + n := ⟨_, rfl⟩
              rw [← hm] at c6
              have hfx2 : Hid (ftake l = if (l.drop m).take 4 ≠ cbytes (csum (l.take m)) then (0, [], 0, 12) else (l[1]?.getD 0, (l.drop (2 + k)).take n, m + 4, 0)) := by
                show _ = _; rw [hfx.out, if_neg (by omega), if_neg c5, ← hm, if_neg c6]
              have hframe := Lib.hid (take_frame l x1 n k m HX0.out HX1.out HP.out hm (by omega))
              obtain ⟨Y2, hY2, hd2⟩ := hy.upto elB (m + 4) (by omega)
              obtain ⟨Y3, hY3, hd3⟩ := hy.piece elB (2 + k) m (by omega) (by omega)
              have hme : (2 : Int) + k + n = (m : Int) := by omega
              have hm4 : ((m + 4 : Nat) : Int) = (m : Int) + 4 := by omega
              have hk22 : ((2 + k : Nat) : Int) = 2 + (k : Int) := by omega
              have hm44 : (m : Int) + 4 - 4 = m := by omega
              rw [hm4] at hY2
              rw [hk22] at hY3
              have hmn : (l.drop (2 + k)).take (m - (2 + k)) = (l.drop (2 + k)).take n := by congr 1; omega
              rw [hmn] at hd3
              have h1w : w1.cell? (adr 1) = some (.int .u8 x1.toNat) := (hw1.cell hb1).trans h1c
              have hbd2 := hd2.below hw1
              have hbd3 := hd3.below hw1
              have hcl : ((l.drop (2 + k)).take n).length ≤ 1048576 := by rw [List.length_take]; omega
              clear hm hmn hm4 hk22 ha3 hfx
              have hcm : (m : Int) + 4 ≤ l.length := by omega
              have hb1w : (adr 1).block < w1.heap.size := by have := hw1.size; omega
              by_cases c7 : (l.drop m).take 4 = cbytes (csum (l.take m))
              · have heq : Hid ((fframe x1 ((l.drop (2 + k)).take n) == l.take (m + 4)) = true) := by show _ = _; rw [hframe.out]; simp [c7]
                have hf : Hid (ftake l = (l[1]?.getD 0, (l.drop (2 + k)).take n, m + 4, 0)) := by show _ = _; rw [hfx2.out, if_neg (by simpa using c7)]
                clear c7
                go_wp2
                go_region_held3 (fun w' => w'.cell? (adr 1) = some (.int .u8 x1.toNat)) (go_keep) (first | (go_at_call 82; refine (rfput_any x1 _ rfl _ _ _ hbd3.drew hcl).mono ?_; rintro e w2 ⟨v2, rfl, ho2, hw2⟩; have g2 := (hw2.cell hb1w).trans h1w) | (go_at_call 16; refine (same_any _ _ _ _ _ ho2.bs (hbd2.drew.below hw2)).mono ?_; rintro e w3 ⟨rfl, hw3⟩; rw [heq.out]; have g3 := (hw3.cell (Nat.lt_of_lt_of_le hb1w hw2.size)).trans g2))
                have hwW3 := (hw1.drew.trans (hw2.mono hw1.size)).trans (hw3.mono (Nat.le_trans hw1.size hw2.size))
                have hbd33 := hd3.below hwW3
                clear ho2
                go_wp2
                refine bodyPost_ret (v := .tuple #[.int .u8 x1.toNat, Y3, .int .i64 ((m : Int) + 4), .int .i64 0]) (by simp [results, Try.results106, go_sem]) rfl ⟨Y3, ?_, ?_, hwW3⟩
                · rw [hf.out, HX1.out]; rfl
                · rw [hf.out]; exact hbd33
              · have heq : Hid ((fframe x1 ((l.drop (2 + k)).take n) == l.take (m + 4)) = false) := by show _ = _; rw [hframe.out]; simp [c7]
                have hf : Hid (ftake l = (0, [], 0, 12)) := by show _ = _; rw [hfx2.out, if_pos c7]
                clear c7
                go_wp2
                go_region_held3 (fun w' => w'.cell? (adr 1) = some (.int .u8 x1.toNat)) (go_keep) (first | (go_at_call 82; refine (rfput_any x1 _ rfl _ _ _ hbd3.drew hcl).mono ?_; rintro e w2 ⟨v2, rfl, ho2, hw2⟩; have g2 := (hw2.cell hb1w).trans h1w) | (go_at_call 16; refine (same_any _ _ _ _ _ ho2.bs (hbd2.drew.below hw2)).mono ?_; rintro e w3 ⟨rfl, hw3⟩; rw [heq.out]; have g3 := (hw3.cell (Nat.lt_of_lt_of_le hb1w hw2.size)).trans g2))
                have hwW3 := (hw1.drew.trans (hw2.mono hw1.size)).trans (hw3.mono (Nat.le_trans hw1.size hw2.size))
                clear ho2
                go_wp2
                refine bodyPost_ret (v := .tuple #[.int .u8 0, .slice none 0 0, .int .i64 0, .int .i64 12]) (by simp [results, Try.results106, go_sem]) rfl ⟨.slice none 0 0, ?_, ?_, hwW3⟩
                · rw [hf.out]; rfl
                · rw [hf.out]; exact Rd.nil _ _
        · have hf : Hid (ftake l = (0, [], 0, f)) := by show _ = _; rw [hfx.out, if_pos c4]
          have q4 : ((f : Int) != 0) = true := by rw [bne_iff_ne]; omega
          clear c4
          go_wp2
          refine bodyPost_ret (v := .tuple #[.int .u8 0, .slice none 0 0, .int .i64 0, .int .i64 f]) (by simp [results, Try.results106, go_sem]) rfl ⟨.slice none 0 0, ?_, ?_, hw1⟩
          · rw [hf.out]; rfl
          · rw [hf.out]; exact Rd.nil _ _
    · have q2 : ((x.toNat : Int) != 199) = true := by
        rw [bne_iff_ne]; intro h; apply c2; apply UInt8.toNat_inj.1; have : (199 : UInt8).toNat = 199 := rfl; omega
      have hf : Hid (ftake l = (0, [], 0, 11)) := by show _ = _; unfold ftake; rw [if_neg c1, if_pos (by rw [hx]; simpa using c2)]
      clear c1 c2 hx
      go_enter Try.func106, Try.ntmps106
      go_wp2
      refine bodyPost_ret (v := .tuple #[.int .u8 0, .slice none 0 0, .int .i64 0, .int .i64 11]) (by simp [results, Try.results106, go_sem]) rfl ⟨.slice none 0 0, ?_, ?_, Below.refl _ _⟩
      · rw [hf.out]; rfl
      · rw [hf.out]; exact Rd.nil _ _

end Go.Proofs.Yticpmkdlnjnfgaa
/- Walks of Whole of layer 4 and of its reference; the walk of the statement FrameTakes. -/
namespace Go.Proofs.Yticpmkdlnjnfgaa
open Go.RowKit

def fwhole (k : UInt8) (l : List UInt8) : List UInt8 × Nat :=
  if (ftake l).2.2.2 ≠ 0 then ([], (ftake l).2.2.2) else if (ftake l).1 ≠ k then ([], 11) else if (ftake l).2.2.1 < l.length then ([], 13) else ((ftake l).2.1, 0)

def WholePost (k : UInt8) (l : List UInt8) (w : World) (e : Ending) (w' : World) : Prop :=
  ∃ v, e = .returned (.tuple #[v, .int .i64 (fwhole k l).2]) ∧ Bs w' v (fwhole k l).1 ∧ Below w.heap.size w w'

theorem u8_ne {a b : UInt8} (h : a ≠ b) : ((a.toNat : Int) != b.toNat) = true := by
  rw [bne_iff_ne]; intro e; exact h (UInt8.toNat_inj.1 (by omega))

set_option maxRecDepth 100000 in
theorem fwhole_any (k : UInt8) (K : Int) (hK : K = k.toNat) (y : Value) (l : List UInt8) (w : World) (hy : Bs w y l) (hl : l.length ≤ 1048576) : Calls Try.prog 85 #[.int .u8 K, y] w (WholePost k l w) := by
  subst hK
  obtain ⟨a, ca, hs⟩ := hy.shape
  subst hs
  have ht := ftake_any _ l w hy (by omega)
  obtain ⟨tk, tc, tn, tf, hv⟩ : ∃ a b c d, ftake l = (a, b, c, d) := ⟨_, _, _, _, rfl⟩
  have HT := Lib.hid ht
  have hw : Hid (fwhole k l = if tf ≠ 0 then ([], tf) else if tk ≠ k then ([], 11) else if tn < l.length then ([], 13) else (tc, 0)) := by show _ = _; unfold fwhole; rw [hv]
  have HV := Lib.hid hv
  clear ht hv
  go_enter Try.func85, Try.ntmps85
  go_wp2_with fail
  refine HT.out.mono ?_
  rintro e w1 ⟨v1, he, hb1, hw1⟩
  rw [HV.out] at he hb1
  subst he
  by_cases c1 : tf = 0
  · have q1 : ((tf : Int) != 0) = false := by rw [c1]; rfl
    by_cases c2 : tk = k
    · have q2 : ((tk.toNat : Int) != k.toNat) = false := by rw [c2]; simp
      by_cases c3 : tn < l.length
      · have hf : Hid (fwhole k l = ([], 13)) := by show _ = _; rw [hw.out, if_neg (by omega), if_neg (by simpa using c2), if_pos c3]
        clear c1 c2
        go_wp2
        refine bodyPost_ret (v := .tuple #[.slice none 0 0, .int .i64 13]) (by simp [results, Try.results85, go_sem]) rfl ⟨.slice none 0 0, ?_, ?_, hw1⟩
        · rw [hf.out]; rfl
        · rw [hf.out]; exact Rd.nil _ _
      · have hf : Hid (fwhole k l = (tc, 0)) := by show _ = _; rw [hw.out, if_neg (by omega), if_neg (by simpa using c2), if_neg c3]
        clear c1 c2
        go_wp2
        refine bodyPost_ret (v := .tuple #[v1, .int .i64 0]) (by simp [results, Try.results85, go_sem]) rfl ⟨v1, ?_, ?_, hw1⟩
        · rw [hf.out]; rfl
        · rw [hf.out]; exact hb1
    · have q2 := u8_ne c2
      have hf : Hid (fwhole k l = ([], 11)) := by show _ = _; rw [hw.out, if_neg (by omega), if_pos c2]
      clear c1 c2
      go_wp2
      refine bodyPost_ret (v := .tuple #[.slice none 0 0, .int .i64 11]) (by simp [results, Try.results85, go_sem]) rfl ⟨.slice none 0 0, ?_, ?_, hw1⟩
      · rw [hf.out]; rfl
      · rw [hf.out]; exact Rd.nil _ _
  · have q1 : ((tf : Int) != 0) = true := by rw [bne_iff_ne]; omega
    have hf : Hid (fwhole k l = ([], tf)) := by show _ = _; rw [hw.out, if_pos c1]
    clear c1
    go_wp2
    refine bodyPost_ret (v := .tuple #[.slice none 0 0, .int .i64 tf]) (by simp [results, Try.results85, go_sem]) rfl ⟨.slice none 0 0, ?_, ?_, hw1⟩
    · rw [hf.out]
    · rw [hf.out]; exact Rd.nil _ _

set_option maxRecDepth 100000 in
theorem rfwhole_any (k : UInt8) (K : Int) (hK : K = k.toNat) (y : Value) (l : List UInt8) (w : World) (hy : Bs w y l) (hl : l.length ≤ 1048576) : Calls Try.prog 79 #[.int .u8 K, y] w (WholePost k l w) := by
  subst hK
  obtain ⟨a, ca, hs⟩ := hy.shape
  subst hs
  have ht := rftake_any _ l w hy hl
  obtain ⟨tk, tc, tn, tf, hv⟩ : ∃ a b c d, ftake l = (a, b, c, d) := ⟨_, _, _, _, rfl⟩
  have HT := Lib.hid ht
  have hw : Hid (fwhole k l = if tf ≠ 0 then ([], tf) else if tk ≠ k then ([], 11) else if tn < l.length then ([], 13) else (tc, 0)) := by show _ = _; unfold fwhole; rw [hv]
  have HV := Lib.hid hv
  clear ht hv
  go_enter Try.func79, Try.ntmps79
  go_wp2_with fail
  refine HT.out.mono ?_
  rintro e w1 ⟨v1, he, hb1, hw1⟩
  rw [HV.out] at he hb1
  subst he
  by_cases c1 : tf = 0
  · have q1 : ((tf : Int) != 0) = false := by rw [c1]; rfl
    by_cases c2 : tk = k
    · have q2 : ((tk.toNat : Int) != k.toNat) = false := by rw [c2]; simp
      by_cases c3 : tn < l.length
      · have hf : Hid (fwhole k l = ([], 13)) := by show _ = _; rw [hw.out, if_neg (by omega), if_neg (by simpa using c2), if_pos c3]
        clear c1 c2
        go_wp2
        refine bodyPost_ret (v := .tuple #[.slice none 0 0, .int .i64 13]) (by simp [results, Try.results79, go_sem]) rfl ⟨.slice none 0 0, ?_, ?_, hw1⟩
        · rw [hf.out]; rfl
        · rw [hf.out]; exact Rd.nil _ _
      · have hf : Hid (fwhole k l = (tc, 0)) := by show _ = _; rw [hw.out, if_neg (by omega), if_neg (by simpa using c2), if_neg c3]
        clear c1 c2
        go_wp2
        refine bodyPost_ret (v := .tuple #[v1, .int .i64 0]) (by simp [results, Try.results79, go_sem]) rfl ⟨v1, ?_, ?_, hw1⟩
        · rw [hf.out]; rfl
        · rw [hf.out]; exact hb1
    · have q2 := u8_ne c2
      have hf : Hid (fwhole k l = ([], 11)) := by show _ = _; rw [hw.out, if_neg (by omega), if_pos c2]
      clear c1 c2
      go_wp2
      refine bodyPost_ret (v := .tuple #[.slice none 0 0, .int .i64 11]) (by simp [results, Try.results79, go_sem]) rfl ⟨.slice none 0 0, ?_, ?_, hw1⟩
      · rw [hf.out]; rfl
      · rw [hf.out]; exact Rd.nil _ _
  · have q1 : ((tf : Int) != 0) = true := by rw [bne_iff_ne]; omega
    have hf : Hid (fwhole k l = ([], tf)) := by show _ = _; rw [hw.out, if_pos c1]
    clear c1
    go_wp2
    refine bodyPost_ret (v := .tuple #[.slice none 0 0, .int .i64 tf]) (by simp [results, Try.results79, go_sem]) rfl ⟨.slice none 0 0, ?_, ?_, hw1⟩
    · rw [hf.out]
    · rw [hf.out]; exact Rd.nil _ _


end Go.Proofs.Yticpmkdlnjnfgaa
/- The plain law of frames: what is framed is taken; cut off it is none. -/
namespace Go.Proofs.Yticpmkdlnjnfgaa

theorem vgo_short (n : Nat) : ∀ (i m j : Nat), n * 128 ^ i < 18446744073709551616 → i ≤ 9 → j < (vput n).length → vgo ((vput n).take j) i m = (0, 0, 10) := by
  induction n using Nat.strongRecOn with
  | _ n ih =>
    intro i m j hb hi hj
    have h9 : i = 9 → n ≤ 1 := by
      rintro rfl
      have : (128 : Nat) ^ 9 = 9223372036854775808 := by decide
      rw [this] at hb
      omega
    by_cases hn : n < 128
    · rw [vput_small hn] at *
      have : j = 0 := by simpa using hj
      subst this
      rfl
    · rw [vput_big hn] at *
      cases j with
      | zero => rfl
      | succ j =>
        rw [List.take_succ_cons, vgo]
        have hc : (UInt8.ofNat (128 + n % 128)).toNat = 128 + n % 128 := by simp; omega
        rw [hc, if_neg (by omega), if_neg (by omega)]
        have hd : n / 128 * 128 ^ (i + 1) + n % 128 * 128 ^ i = n * 128 ^ i := by
          rw [Nat.pow_succ, Nat.mul_comm (128 ^ i) 128, ← Nat.mul_assoc, ← Nat.add_mul]
          congr 1
          omega
        exact ih (n / 128) (by omega) (i + 1) _ j (by omega) (by omega) (by simpa using hj)

theorem vtake_short (n j : Nat) (h : n < 18446744073709551616) (hj : j < (vput n).length) : vtake ((vput n).take j) = (0, 0, 10) := vgo_short n 0 0 j (by simpa using h) (by omega) hj

theorem fframe_len (k : UInt8) (c : List UInt8) : (fframe k c).length = 2 + (vput c.length).length + c.length + 4 := by
  unfold fframe fhead
  simp [cbytes_len]
  omega

theorem fframe_eq (k : UInt8) (c : List UInt8) : fframe k c = 199 :: k :: (vput c.length ++ (c ++ cbytes (csum (fhead k c)))) := by
  unfold fframe
  conv => lhs; lhs; unfold fhead
  simp

theorem ftake_frame (k : UInt8) (c more : List UInt8) (hc : c.length ≤ 1048576) : ftake (fframe k c ++ more) = (k, c, (fframe k c).length, 0) := by
  have hl := fframe_len k c
  have hv := vtake_vput c.length (by omega) (c ++ cbytes (csum (fhead k c)) ++ more)
  have hd : (fframe k c ++ more).drop 2 = vput c.length ++ (c ++ cbytes (csum (fhead k c)) ++ more) := by rw [fframe_eq]; simp
  have hh : (fhead k c).length = 2 + (vput c.length).length + c.length := by simp [fhead]; omega
  have hfr : fframe k c ++ more = fhead k c ++ (cbytes (csum (fhead k c)) ++ more) := by unfold fframe; simp
  unfold ftake
  rw [hd, hv]
  simp only
  rw [if_neg (by rw [List.length_append]; omega), if_neg (by rw [fframe_eq]; simp), if_neg (by rw [List.length_append]; omega), if_neg (by simp), if_neg (by omega), if_neg (by rw [List.length_append]; omega)]
  have h1 : (fframe k c ++ more).take (2 + (vput c.length).length + c.length) = fhead k c := by
    rw [hfr, ← hh]; exact List.take_left
  have h2 : ((fframe k c ++ more).drop (2 + (vput c.length).length + c.length)).take 4 = cbytes (csum (fhead k c)) := by
    rw [hfr, ← hh, List.drop_left, List.take_append_of_le_length (by rw [cbytes_len]; omega)]
    exact List.take_of_length_le (by rw [cbytes_len]; omega)
  rw [h1, h2, if_neg (by simp)]
  refine Prod.ext ?_ (Prod.ext ?_ (Prod.ext ?_ rfl))
  · rw [fframe_eq]; simp
  · show ((fframe k c ++ more).drop (2 + (vput c.length).length)).take c.length = c
    rw [← List.drop_drop, hd, List.drop_left]
    rw [List.append_assoc]
    exact List.take_left
  · show _ = (fframe k c).length
    rw [hl]

theorem fwhole_frame (k : UInt8) (c : List UInt8) (hc : c.length ≤ 1048576) : fwhole k (fframe k c) = (c, 0) := by
  have h := ftake_frame k c [] hc
  rw [List.append_nil] at h
  unfold fwhole
  rw [h]
  simp

theorem ftake_cut (k : UInt8) (c : List UInt8) (cut : Nat) (hc : c.length ≤ 1048576) (h : cut < (fframe k c).length) : (ftake ((fframe k c).take cut)).2.2.2 = 10 := by
  have hl := fframe_len k c
  have hlen : ((fframe k c).take cut).length = cut := by rw [List.length_take]; omega
  unfold ftake
  rw [hlen]
  by_cases h0 : cut = 0
  · rw [if_pos h0]
  · rw [if_neg h0]
    have hx : ((fframe k c).take cut)[0]? = some 199 := by rw [List.getElem?_take, if_pos (by omega), fframe_eq]; rfl
    rw [hx, if_neg (by simp)]
    by_cases h1 : cut = 1
    · rw [if_pos h1]
    · rw [if_neg h1]
      obtain ⟨j, rfl⟩ : ∃ j, cut = j + 2 := ⟨cut - 2, by omega⟩
      have hd : ((fframe k c).take (j + 2)).drop 2 = (vput c.length ++ (c ++ cbytes (csum (fhead k c)))).take j := by rw [fframe_eq]; simp
      rw [hd]
      by_cases hj : j < (vput c.length).length
      · rw [List.take_append_of_le_length (by omega), vtake_short _ _ (by omega) hj]
        rfl
      · have e : (vput c.length ++ (c ++ cbytes (csum (fhead k c)))).take j = vput c.length ++ (c ++ cbytes (csum (fhead k c))).take (j - (vput c.length).length) := by
          rw [List.take_append, List.take_of_length_le (by omega)]
        rw [e, vtake_vput _ (by omega)]
        simp only
        rw [if_neg (by simp), if_neg (by omega), if_pos (by omega)]

end Go.Proofs.Yticpmkdlnjnfgaa
