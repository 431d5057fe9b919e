/-
  The wire as plain data: what each call does to the row. No memory, no program.
-/
namespace Go.Proofs.Ytfnlemdlngdaiaa

/-- The row: numbers and bytes; how many numbers were given. -/
structure WA where
  row : List (Nat × List UInt8)
  given : Nat

namespace WA
def find (s : WA) (n : Int) : Option Nat := s.row.findIdx? fun m => (m.1 : Int) == n
def get (s : WA) (i : Nat) : Nat × List UInt8 := s.row.getD i (0, [])
def add (s : WA) (l : List UInt8) : WA := ⟨s.row ++ [(s.given + 1, l)], s.given + 1⟩
/-- Send, Copy: the new wire, the number, the error. -/
def put (s : WA) (l : List UInt8) : WA × Int × Int := if 4096 ≤ s.given then (s, 0, 234) else (s.add l, ((s.given + 1 : Nat) : Int), 0)
def send (s : WA) (l : List UInt8) : WA × Int × Int := if 1048576 < l.length then (s, 0, 233) else s.put l
def look (s : WA) (n : Int) : List UInt8 × Int := match s.find n with | none => ([], 231) | some i => ((s.get i).2, 0)
def gone (s : WA) (i : Nat) : WA := ⟨s.row.eraseIdx i, s.given⟩
def drop (s : WA) (n : Int) : WA × Int := match s.find n with | none => (s, 231) | some i => (s.gone i, 0)
def copy (s : WA) (n : Int) : WA × Int × Int := match s.find n with | none => (s, 0, 231) | some i => s.put (s.get i).2
def swapped (s : WA) (i k : Nat) : WA := ⟨(s.row.set i (s.get k)).set k (s.get i), s.given⟩
def swap (s : WA) (n m : Int) : WA × Int := match s.find n, s.find m with | some i, some k => (s.swapped i k, 0) | _, _ => (s, 231)
def setB (s : WA) (i : Nat) (l : List UInt8) : WA := ⟨s.row.set i ((s.get i).1, l), s.given⟩
/-- The lowest eight bits. -/
def low (bits : Int) : UInt8 := UInt8.ofNat (bits % 256).toNat
def flipped (l : List UInt8) (at_ : Nat) (bits : Int) : List UInt8 := l.set at_ (l.getD at_ 0 ^^^ low bits)
def flip (s : WA) (n at_ bits : Int) : WA × Int := match s.find n with
  | none => (s, 231)
  | some i => if at_ < 0 ∨ ((s.get i).2.length : Int) ≤ at_ then (s, 232) else (s.setB i (flipped (s.get i).2 at_.toNat bits), 0)
def cut (s : WA) (n len : Int) : WA × Int := match s.find n with
  | none => (s, 231)
  | some i => if len < 0 ∨ ((s.get i).2.length : Int) < len then (s, 232) else (s.setB i ((s.get i).2.take len.toNat), 0)
def next (s : WA) : Int := match s.row with | [] => 0 | m :: _ => m.1
end WA
end Go.Proofs.Ytfnlemdlngdaiaa
