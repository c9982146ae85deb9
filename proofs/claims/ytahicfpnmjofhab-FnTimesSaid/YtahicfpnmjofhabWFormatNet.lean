/- FormatNet of impl and of spec. No condition. -/
import Derived.Test.YtahicfpnmjofhabWNetOkI2
import Derived.Test.YtahicfpnmjofhabWNetOkS
import Derived.Test.YtahicfpnmjofhabWFmt
namespace Go.Proofs.Ytahicfpnmjofhab
set_option maxRecDepth 100000
open Go.ChangeShapes Go.WideShapes Go.ChangeAt Go.RowKit Go.Joins

def wireTxt (xs : List Int) (k : Nat) : List UInt8 := [32] ++ fmtInt (wa xs k) ++ [45] ++ fmtInt (wb xs k) ++ [61] ++ fmtInt (ww xs k)
def netHead (N E S : Int) : List UInt8 := fmtInt N ++ [47] ++ fmtInt E ++ [47] ++ fmtInt S ++ [58]
def netPart (N E S : Int) (xs : List Int) : Nat → List UInt8
  | 0 => netHead N E S
  | k + 1 => netPart N E S xs k ++ wireTxt xs k
theorem netPart_le (N E S : Int) (xs : List Int) : ∀ k, (netPart N E S xs k).length ≤ 69 + 69 * k
  | 0 => by have := fmtInt_length N; have := fmtInt_length E; have := fmtInt_length S; simp [netPart, netHead]; omega
  | k + 1 => by
    have := netPart_le N E S xs k
    have := fmtInt_length (wa xs k); have := fmtInt_length (wb xs k); have := fmtInt_length (ww xs k)
    simp [netPart, wireTxt]; omega
noncomputable def netTxt (N E S : Int) (m : Nat) (xs : List Int) : List UInt8 := if netB N E S m xs = true then netPart N E S xs m else []
theorem netTxt_t {N E S : Int} {m : Nat} {xs : List Int} (h : netB N E S m xs = true) : bstr (netTxt N E S m xs) = bstr (netPart N E S xs m) := by simp [netTxt, h]
theorem netTxt_f {N E S : Int} {m : Nat} {xs : List Int} (h : netB N E S m xs = false) : bstr (netTxt N E S m xs) = ⟨#[]⟩ := by simp [netTxt, h, bstr]
theorem head_eq (N E S : Int) (xs : List Int) : bstr (fmtInt N) ++ (⟨#[47]⟩ : ByteArray) ++ bstr (fmtInt E) ++ (⟨#[47]⟩ : ByteArray) ++ bstr (fmtInt S) ++ (⟨#[58]⟩ : ByteArray) = bstr (netPart N E S xs 0) := by
  rw [show (⟨#[47]⟩ : ByteArray) = bstr [47] from rfl, show (⟨#[58]⟩ : ByteArray) = bstr [58] from rfl]
  simp only [bstr_append, netPart, netHead]
theorem wire_eq_s (N E S : Int) (xs : List Int) (k : Nat) : bstr (netPart N E S xs k) ++ (⟨#[32]⟩ : ByteArray) ++ bstr (fmtInt (wa xs k)) ++ (⟨#[45]⟩ : ByteArray) ++ bstr (fmtInt (wb xs k)) ++ (⟨#[61]⟩ : ByteArray) ++ bstr (fmtInt (ww xs k)) = bstr (netPart N E S xs (k + 1)) := by
  rw [show (⟨#[32]⟩ : ByteArray) = bstr [32] from rfl, show (⟨#[45]⟩ : ByteArray) = bstr [45] from rfl, show (⟨#[61]⟩ : ByteArray) = bstr [61] from rfl]
  simp only [bstr_append, netPart, wireTxt, List.append_assoc]
theorem wire_eq_i (N E S : Int) (xs : List Int) (k : Nat) : bstr (netPart N E S xs k) ++ ((⟨#[32]⟩ : ByteArray) ++ bstr (fmtInt (wa xs k)) ++ (⟨#[45]⟩ : ByteArray) ++ bstr (fmtInt (wb xs k)) ++ (⟨#[61]⟩ : ByteArray) ++ bstr (fmtInt (ww xs k))) = bstr (netPart N E S xs (k + 1)) := by
  rw [show (⟨#[32]⟩ : ByteArray) = bstr [32] from rfl, show (⟨#[45]⟩ : ByteArray) = bstr [45] from rfl, show (⟨#[61]⟩ : ByteArray) = bstr [61] from rfl]
  simp only [bstr_append, netPart, wireTxt, List.append_assoc]
/-- An integer of 64 bits. -/
def I64 (x : Int) : Prop := -9223372036854775808 ≤ x ∧ x ≤ 9223372036854775807
theorem fsz (x : Int) : (bstr (fmtInt x)).size ≤ 22 := by rw [bstr_size]; exact fmtInt_length x

end Go.Proofs.Ytahicfpnmjofhab
