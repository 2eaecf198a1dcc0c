/-
  Proved: what some functions of the program answer, or a law of the evaluator that shows it, one theorem each; its conditions are the hypotheses that stand ahead of it.
-/
import Derived.Test.YtgbkobkiomeokaaDoorV0
set_option linter.unusedVariables false
set_option linter.unusedSimpArgs false
namespace Sp
open Go
/-! ### Words of 32 bits, as the machine reckons with them -/
def w32 (n : Int) : Int := IntKind.u32.wrap n
def xo32 (a b : Int) : Int := IntKind.u32.wrap (((BitVec.ofInt IntKind.u32.bits a ^^^ BitVec.ofInt IntKind.u32.bits b).toNat : Nat) : Int)
def or32 (a b : Int) : Int := IntKind.u32.wrap (((BitVec.ofInt IntKind.u32.bits a ||| BitVec.ofInt IntKind.u32.bits b).toNat : Nat) : Int)
def sr (a : Int) (n : Nat) : Int := a.fdiv (2 ^ n)
def sl32 (a : Int) (n : Nat) : Int := w32 (a * 2 ^ n)
def rotl (n m : Nat) (k : Int) : Int := or32 (sl32 k n) (sr k m)
def mixK (k : Int) : Int := w32 (rotl 15 17 (w32 (k * 3432918353)) * 461845907)
def mixH (h k : Int) : Int := w32 (w32 (rotl 13 19 (xo32 h k) * 5) + 3864292196)
def fin1 (h : Int) : Int := w32 (xo32 h (sr h 16) * 2246822507)
def fin2 (h : Int) : Int := w32 (xo32 h (sr h 13) * 3266489909)
def fin3 (h : Int) : Int := xo32 h (sr h 16)
def finH (h n : Int) : Int := fin3 (fin2 (fin1 (xo32 h n)))
def collH (h n : Int) : Int := finH (mixH 0 (mixK h)) (w32 n)
def ordF (l : List Int) : Int := l.foldl (fun h x => w32 (w32 (31 * h) + x)) 1
def unordF (l : List Int) : Int := l.foldl (fun h x => w32 (h + x)) 0
def javaF (l : List Int) : Int := l.foldl (fun h x => IntKind.i32.wrap (IntKind.i32.wrap (31 * h) + IntKind.i32.wrap x)) 0
attribute [irreducible] rotl mixK mixH finH collH ordF unordF javaF
end Sp
