/- Plain laws of bytes and lists that all laws of this seat use: cuts of texts, byte tests, fuel, and strings.IndexFunc at blanks. -/
import Derived.Test.YtkcemdfhhdjdaaaDoorPx3
import Derived.Lib.Hide
namespace Go.Proofs.YtkcemdfhhdjdaaaDoor.Pure
open Go Go.RowKit Go.Proofs.YtkcemdfhhdjdaaaDoor.P Go.Proofs.YtkcemdfhhdjdaaaDoor.Ext Go.Proofs.YtkcemdfhhdjdaaaDoorW.PrintWords
set_option linter.unusedVariables false
set_option linter.unusedSimpArgs false

def mkB (x : List UInt8) : ByteArray := ⟨x.toArray⟩
def toB (l : List (List UInt8)) : List ByteArray := l.map mkB
theorem bytes_ext {a b : ByteArray} (h : a.data.toList = b.data.toList) : a = b := by
  obtain ⟨⟨x⟩⟩ := a
  obtain ⟨⟨y⟩⟩ := b
  simp at h
  rw [h]
theorem mkB_data (x : List UInt8) : (mkB x).data.toList = x := rfl
theorem mkB_toList (x : List UInt8) : (mkB x).toList = x := by rw [ByteArray.toList_eq]; rfl
theorem mkB_size (x : List UInt8) : (mkB x).size = x.length := rfl
theorem mkB_of (s : ByteArray) : mkB s.data.toList = s := bytes_ext rfl
theorem mkB_inj {x y : List UInt8} (h : mkB x = mkB y) : x = y := by
  have := congrArg (fun b : ByteArray => b.data.toList) h
  exact this
theorem mkB_append (x y : List UInt8) : mkB x ++ mkB y = mkB (x ++ y) := bytes_ext (by simp [mkB])
theorem toB_of (l : List ByteArray) : toB (l.map (·.data.toList)) = l := by
  unfold toB
  rw [List.map_map]
  conv => rhs; rw [← List.map_id l]
  exact List.map_congr_left (fun x _ => mkB_of x)
theorem size_list (s : ByteArray) : s.data.toList.length = s.size := Array.length_toList
theorem byte_eq (c : UInt8) (n : Nat) (hn : n < 256) : ((c.toNat : Int) = (n : Int)) ↔ c = UInt8.ofNat n := by
  constructor
  · intro h
    have : c.toNat = n := by omega
    rw [← this]; simp
  · rintro rfl
    simp [Nat.mod_eq_of_lt hn]
theorem extract_mk (s : ByteArray) (a b : Nat) : s.extract a b = mkB ((s.data.toList.drop a).take (b - a)) := bytes_ext (Lib.extract_data s a b)
theorem mk_drop (l : List UInt8) (a n : Nat) (hn : l.length ≤ n) : (mkB l).extract a n = mkB (l.drop a) := by
  rw [extract_mk, mkB_data, List.take_of_length_le (by rw [List.length_drop]; omega)]
theorem mk_take (l : List UInt8) (a b : Nat) : (mkB l).extract a b = mkB ((l.drop a).take (b - a)) := by rw [extract_mk, mkB_data]
/-- The byte at i of a text. -/
theorem bt_mk (l : List UInt8) (i : Nat) (c : UInt8) (h : l[i]? = some c) : bt (mkB l) (i : Int) = (c.toNat : Int) := by
  obtain ⟨hl, he⟩ := List.getElem?_eq_some_iff.1 h
  unfold bt
  rw [dif_pos (by rw [mkB_size]; simpa using hl)]
  have : (mkB l)[((i : Int)).toNat]'(by rw [mkB_size]; simpa using hl) = c := by
    rw [← he]; rfl
  rw [this]
theorem bt_cons (c : UInt8) (r : List UInt8) : bt (mkB (c :: r)) 0 = (c.toNat : Int) := bt_mk _ 0 c rfl
theorem bt_app (p : List UInt8) (c : UInt8) (r : List UInt8) (n : Int) (h : n = (p.length : Int)) : bt (mkB (p ++ c :: r)) n = (c.toNat : Int) := by
  rw [h]
  exact bt_mk _ _ c (by simp)
theorem b_of {c : UInt8} {n : Nat} (hn : n < 256) (h : c = UInt8.ofNat n) : (c.toNat : Int) = (n : Int) := (byte_eq c n hn).2 h
theorem b_ne {c : UInt8} {n : Nat} (hn : n < 256) (h : c ≠ UInt8.ofNat n) : ¬ ((c.toNat : Int) = (n : Int)) := fun e => h ((byte_eq c n hn).1 e)
theorem w64 {i : Nat} (h : i < 4611686018427387904) : wrap64 ((i : Int) + 1) = ((i + 1 : Nat) : Int) := by unfold wrap64; omega
theorem w64i {i : Int} (h0 : -4611686018427387904 < i) (h : i < 4611686018427387904) : wrap64 i = i := by unfold wrap64; omega

/-- Blank or tab. -/
def blk (c : UInt8) : Bool := c == 32 || c == 9
theorem blk_iff (c : UInt8) : blk c = true ↔ (c = 32 ∨ c = 9) := by simp [blk]
theorem blank_f (c : UInt8) : script_blank.f (c.toNat : Int) = some (blk c) := by
  unfold script_blank.f blk
  by_cases h : c = 32
  · subst h; rfl
  · rw [if_neg (show ¬ ((c.toNat : Int) = 32) from b_ne (n := 32) (by decide) h)]
    congr 1
    have h1 : (c == 32) = false := beq_eq_false_iff_ne.2 h
    rw [h1, Bool.false_or]
    by_cases h9 : c = 9
    · subst h9; rfl
    · rw [beq_eq_false_iff_ne.2 h9]
      exact beq_eq_false_iff_ne.2 (b_ne (n := 9) (by decide) h9)

/-! ### strings.IndexFunc at blanks: runes as bytes -/
theorem decodeN_hi (n b0 b1 b2 b3 : Nat) (h0 : 128 ≤ b0) : 128 ≤ (Lib.decodeN n b0 b1 b2 b3).1 ∧ 1 ≤ (Lib.decodeN n b0 b1 b2 b3).2 ∧ (2 ≤ (Lib.decodeN n b0 b1 b2 b3).2 → b1 / 64 = 2 ∧ 1 < n) ∧ (3 ≤ (Lib.decodeN n b0 b1 b2 b3).2 → b2 / 64 = 2 ∧ 2 < n) ∧ (4 ≤ (Lib.decodeN n b0 b1 b2 b3).2 → b3 / 64 = 2 ∧ 3 < n) ∧ (Lib.decodeN n b0 b1 b2 b3).2 ≤ 4 := by
  unfold Lib.decodeN
  rw [if_neg (by omega)]
  repeat' split
  all_goals (simp only; omega)
theorem decodeN_lo (n b0 b1 b2 b3 : Nat) (h0 : b0 < 128) : Lib.decodeN n b0 b1 b2 b3 = (b0, 1) := by
  unfold Lib.decodeN
  rw [if_pos h0]
theorem get_list (s : ByteArray) (i : Nat) (h : i < s.size) : s.get! i = s.data.toList[i]'(by rw [size_list]; exact h) := by
  show s.data[i]! = _
  rw [getElem!_pos s.data i h]
  rfl
def firstBlk (l : List UInt8) : Option Nat := l.findIdx? blk
theorem firstBlk_cons (c : UInt8) (r : List UInt8) : firstBlk (c :: r) = if blk c = true then some 0 else (firstBlk r).map (· + 1) := by
  unfold firstBlk
  rw [List.findIdx?_cons]
theorem firstBlk_skip (l : List UInt8) : ∀ k, k ≤ l.length → (∀ j (h : j < l.length), j < k → blk l[j] = false) → firstBlk l = (firstBlk (l.drop k)).map (· + k)
  | 0, _, _ => by simp
  | k + 1, hk, h => by
    rw [firstBlk_skip l k (by omega) (fun j hj hlt => h j hj (by omega))]
    have hlt : k < l.length := by omega
    rw [List.drop_eq_getElem_cons hlt, firstBlk_cons, h k hlt (by omega), if_neg (by simp), Option.map_map]
    congr 1
    funext x
    show x + 1 + k = x + (k + 1)
    omega
theorem blk_hi (c : UInt8) (h : c.toNat / 64 = 2) : blk c = false := by
  cases hb : blk c with
  | false => rfl
  | true =>
    rcases (blk_iff c).1 hb with rfl | rfl
    · exact absurd h (by decide)
    · exact absurd h (by decide)
theorem blankP_nat (c : UInt8) : blankP c.toNat = blk c := by
  unfold blankP blk
  congr 1
  · rw [Bool.eq_iff_iff, beq_iff_eq, beq_iff_eq]
    exact ⟨fun h => by rw [← UInt8.toNat_inj]; exact h, fun h => by rw [h]; rfl⟩
  · rw [Bool.eq_iff_iff, beq_iff_eq, beq_iff_eq]
    exact ⟨fun h => by rw [← UInt8.toNat_inj]; exact h, fun h => by rw [h]; rfl⟩
theorem idx_from (s : ByteArray) : ∀ (f pos : Nat), pos ≤ s.size → s.size - pos ≤ f → Lib.idxFuncFrom blankP true s f pos = match firstBlk (s.data.toList.drop pos) with | none => -1 | some j => ((pos + j : Nat) : Int)
  | 0, pos, h1, h2 => by
    rw [List.drop_eq_nil_of_le (by rw [size_list]; omega)]
    rfl
  | f + 1, pos, h1, h2 => by
    unfold Lib.idxFuncFrom
    by_cases hlt : pos < s.size
    · have hl := size_list s
      rw [if_pos hlt, Lib.decode_at, get_list s pos hlt, List.drop_eq_getElem_cons (by omega : pos < s.data.toList.length), firstBlk_cons]
      by_cases hc : (s.data.toList[pos]'(by omega)).toNat < 128
      · rw [decodeN_lo _ _ _ _ _ hc]
        simp only
        rw [blankP_nat]
        by_cases hb : blk (s.data.toList[pos]'(by omega)) = true
        · rw [if_pos hb, if_pos hb]
          simp
        · rw [if_neg hb, if_neg hb, idx_from s f (pos + 1) (by omega) (by omega)]
          cases firstBlk (List.drop (pos + 1) s.data.toList) with
          | none => rfl
          | some j => simp only [Option.map_some]; congr 1; omega
      · obtain ⟨d1, d2, d3, d4, d5, d6⟩ := decodeN_hi (s.size - pos) (s.data.toList[pos]'(by omega)).toNat (s.get! (pos + 1)).toNat (s.get! (pos + 2)).toNat (s.get! (pos + 3)).toNat (by omega)
        generalize Lib.decodeN (s.size - pos) (s.data.toList[pos]'(by omega)).toNat (s.get! (pos + 1)).toNat (s.get! (pos + 2)).toNat (s.get! (pos + 3)).toNat = rw_ at d1 d2 d3 d4 d5 d6 ⊢
        obtain ⟨R, W⟩ := rw_
        simp only at d1 d2 d3 d4 d5 d6 ⊢
        have hR : blankP R = false := by
          unfold blankP
          rw [beq_eq_false_iff_ne.2 (by omega), beq_eq_false_iff_ne.2 (by omega)]; rfl
        have hb0 : blk (s.data.toList[pos]'(by omega)) = false := by
          rw [← blankP_nat]
          unfold blankP
          rw [beq_eq_false_iff_ne.2 (by omega), beq_eq_false_iff_ne.2 (by omega)]; rfl
        have hfits : pos + W ≤ s.size := by
          rcases Nat.lt_or_ge W 2 with h | h
          · omega
          · rcases Nat.lt_or_ge W 3 with h' | h'
            · have := (d3 h).2; omega
            · rcases Nat.lt_or_ge W 4 with h'' | h''
              · have := (d4 h').2; omega
              · have := (d5 h'').2; omega
        rw [hR, if_neg (by simp), hb0, if_neg (by simp), idx_from s f (pos + W) hfits (by omega)]
        have hskip := firstBlk_skip (s.data.toList.drop (pos + 1)) (W - 1) (by rw [List.length_drop]; omega) (fun j hj hlt => by
          rw [List.getElem_drop]
          have hjs : pos + 1 + j < s.size := by omega
          have : s.data.toList[pos + 1 + j]'(by omega) = s.get! (pos + 1 + j) := (get_list s _ hjs).symm
          rw [this]
          apply blk_hi
          rcases (by omega : j = 0 ∨ j = 1 ∨ j = 2) with rfl | rfl | rfl
          · exact (d3 (by omega)).1
          · exact (d4 (by omega)).1
          · exact (d5 (by omega)).1)
        rw [hskip, List.drop_drop, show pos + 1 + (W - 1) = pos + W by omega]
        cases firstBlk (List.drop (pos + W) s.data.toList) with
        | none => rfl
        | some j => simp only [Option.map_some]; congr 1; omega
    · rw [if_neg hlt, List.drop_eq_nil_of_le (by rw [size_list]; omega)]
      rfl
theorem idx_blk (l : List UInt8) : Lib.idxFunc blankP true (mkB l) = match firstBlk l with | none => -1 | some j => (j : Int) := by
  unfold Lib.idxFunc
  rw [idx_from _ _ 0 (by omega) (by omega), mkB_data, List.drop_zero]
  cases firstBlk l with
  | none => rfl
  | some j => simp
end Go.Proofs.YtkcemdfhhdjdaaaDoor.Pure
