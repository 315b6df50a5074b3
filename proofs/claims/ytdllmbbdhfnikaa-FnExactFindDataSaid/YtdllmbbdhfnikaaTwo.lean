/- Walks of OperatorText and CodeName, of the program and of the reference. -/
import Derived.Test.YtdllmbbdhfnikaaIn
namespace Go.Proofs.Ytdllmbbdhfnikaa
open Go.ChangeShapes Go.WideShapes Go.ChangeAt Go.RowKit

def opText (n : Int) : ByteArray :=
  if n = 1 then ⟨#[43]⟩ else if n = 2 then ⟨#[45]⟩ else if n = 3 then ⟨#[42]⟩ else if n = 4 then ⟨#[47]⟩ else if n = 5 then ⟨#[60]⟩ else if n = 6 then ⟨#[61]⟩ else ⟨#[]⟩

end Go.Proofs.Ytdllmbbdhfnikaa
