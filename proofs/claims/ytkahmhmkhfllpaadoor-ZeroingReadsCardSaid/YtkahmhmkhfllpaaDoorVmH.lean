/-
 Save of the document: a run goes on.
 Save of the document: a run goes on.
 Save of the document: a run goes on.
 Save of the document: a run goes on.
 Save of the document.
-/
import Derived.Test.YtkahmhmkhfllpaaDoorVmG
set_option linter.unusedSimpArgs false
set_option linter.unusedVariables false
namespace Go.Proofs.YtkahmhmkhfllpaaDoor
open Go Go.Am Go.Pol
section
variable {s:Sy} {o:Nat} {ho:o=66624} {hlen:s.l.length≤100000} {p:Nat}
end
end Go.Proofs.YtkahmhmkhfllpaaDoor
namespace Go.Proofs.YtkahmhmkhfllpaaDoor
open Go Go.Am Go.Pol
section
variable {s:Sy} {o:Nat} {ho:o=66624} {hlen:s.l.length≤100000} {p:Nat}
end
end Go.Proofs.YtkahmhmkhfllpaaDoor
namespace Go.Proofs.YtkahmhmkhfllpaaDoor
open Go Go.Am Go.Pol
section
variable {s:Sy} {o:Nat} {ho:o=66624} {hlen:s.l.length≤100000} {p:Nat}
end
end Go.Proofs.YtkahmhmkhfllpaaDoor
namespace Go.Proofs.YtkahmhmkhfllpaaDoor
open Go Go.Am Go.Pol
section
variable {s:Sy} {o:Nat} {ho:o=66624} {hlen:s.l.length≤100000} {p:Nat}
end
end Go.Proofs.YtkahmhmkhfllpaaDoor
namespace Go.Proofs.YtkahmhmkhfllpaaDoor
open Go Go.Am Go.Pol
section
variable {s:Sy} {o:Nat} {ho:o=66624} {hlen:s.l.length≤100000} {p:Nat}
end
end Go.Proofs.YtkahmhmkhfllpaaDoor
