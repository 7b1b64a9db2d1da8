/- What the program's functions compute, said over lists of numbers; plain lemmas about it. No program in sight. -/
import Derived.Test.YtdiogjldbhoiiaaAux
namespace Go.Proofs.Ytdiogjldbhoiiaa.Dom
open Go.RowKit Go.Proofs.YtdiogjldbhoiiaaW.PrintWords Go.Proofs.YtdiogjldbhoiiaaW.PrintLast Go.Proofs.YtdiogjldbhoiiaaW.PrintMore Go.Proofs.Ytdiogjldbhoiiaa.Aux

/-- A hex digit. -/
def hxd (c : Int) : Int := bt (⟨#[48, 49, 50, 51, 52, 53, 54, 55, 56, 57, 97, 98, 99, 100, 101, 102]⟩ : ByteArray) c
/-- Two digits a byte. -/
def hexL : List Int → List Int
  | [] => []
  | c :: r => hxd (c / 16) :: hxd (c % 16) :: hexL r
/-- A right target. -/
def uriB (l : List Int) : Bool := l.all (fun c => decide (33 ≤ c ∧ c ≤ 126)) && (decide (1 ≤ (l.length : Int) ∧ (l.length : Int) ≤ 20) && (rd l 0 == 47))
/-- A number of the given bytes, the highest first. -/
def fixR (n : Int) : List Int → Int
  | [] => n
  | c :: r => fixR (n * 256 + c) r
theorem fixR_bound : ∀ (l : List Int) (n : Int) (j : Nat), (∀ c ∈ l, 0 ≤ c ∧ c < 256) → 0 ≤ n → n < 256 ^ j → 0 ≤ fixR n l ∧ fixR n l < 256 ^ (j + l.length)
  | [], n, j, _, h0, h1 => ⟨h0, by simpa [fixR] using h1⟩
  | c :: r, n, j, hl, h0, h1 => by
    have hc := hl c (by simp)
    have h2 : n * 256 + c < 256 ^ (j + 1) := by rw [Int.pow_succ]; omega
    have h := fixR_bound r (n * 256 + c) (j + 1) (fun x hx => hl x (by simp [hx])) (by omega) h2
    have e : j + 1 + r.length = j + (c :: r).length := by simp; omega
    rw [e] at h
    exact h
/-- n in w bytes, the highest first. -/
def fixL (n : Int) : Nat → List Int
  | 0 => []
  | w + 1 => fixL (n / 256) w ++ [n % 256]
/-- Seven bits to a byte, the lowest first. -/
def varL : Nat → Int → List Int
  | 0, n => [n]
  | f + 1, n => if n > 127 then (128 + n % 128) :: varL f (n / 128) else [n]
/-- Var's text. -/
def varT (n : Int) : List Int := if 0 ≤ n ∧ n ≤ 562949953421311 then varL 7 n else []
/-- Fixed's text. -/
def fixT (n w : Int) : List Int := if (1 ≤ w ∧ w ≤ 7) ∧ 0 ≤ n ∧ n < 256 ^ w.toNat then fixL n w.toNat else []

end Go.Proofs.Ytdiogjldbhoiiaa.Dom
